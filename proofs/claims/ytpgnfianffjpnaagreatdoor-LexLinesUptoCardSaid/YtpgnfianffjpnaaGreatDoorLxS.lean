/- lex.documents, walked. -/
import Derived.Test.YtpgnfianffjpnaaGreatDoorLxQ
import Derived.Test.YtpgnfianffjpnaaGreatDoorLxT
import Derived.Test.YtpgnfianffjpnaaGreatDoorErrAt
namespace Go.Proofs.YtpgnfianffjpnaaGreatDoor
open Go Go.RowKit

theorem elem_wd : Tryz.prog.underlying 142 = some (.slice (Tryz.prog.elem 142)) := by simp [Program.elem, Tryz.underlying142]
theorem elem_wde : Tryz.prog.elem 142 = 146 := by simp [Program.elem, Tryz.underlying142]
theorem size_wd : ∀ w, (Go.sizeOf 146).run Tryz.prog w = .ok 2 w := by
  obtain ⟨i, hi, _⟩ := info_parts wordK.hi
  intro w
  rw [run_sizeOf w hi]
  rw [show Tryz.prog.cellsOf 146 = 2 by kernel_rfl]
theorem slice_wd (g n cap : Nat) (hn : 1 ≤ n) : ∃ o, (1 < cap → o = 2) ∧ ∀ wx, (Instr.slice 142 (.slice (some ⟨g, 0, none⟩) n cap) (some (.int .i64 1)) none none).run Tryz.prog wx = .ok (.slice (some ⟨g, o, none⟩) (n - 1) (cap - 1)) wx := by
  by_cases hc : cap = 1
  · refine ⟨0, fun h => by omega, fun wx => ?_⟩
    rw [run_slice_l wx 142 _ _ _ elem_wd .i64 _ (by omega) (by omega), elem_wde, size_wd]
    simp [Result.andThen, sliced, hc]
  · refine ⟨2, fun _ => rfl, fun wx => ?_⟩
    rw [run_slice_l wx 142 _ _ _ elem_wd .i64 _ (by omega) (by omega), elem_wde, size_wd]
    have hne : ¬ cap = 1 := hc
    simp [Result.andThen, sliced, Addr.add, hne]
/-- the documents' reader, and the line at B. -/
structure Dk (w wr : World) (R g c : Nat) (L : List (List UInt8)) (j : Nat) (e : UInt8) (B base : Nat) (ln : Lx.Ln) (vm vd : Value) (ds : List Lx.Dc) : Prop where
  rd : Rd wr R g c L j e
  box : Blk wr B 64 #[.int .i64 ln.line, .string (bs ln.text), vm, vd]
  mks : wr.ownsRow base 136 3 vm ln.marks.length (mkC ln.marks)
  dc : wr.ownsRow w.heap.size 83 4 vd ds.length (dcC ds)
  fx : Fx (fun b => b = R ∨ b = B) w wr
  hR : R < w.heap.size
  hg : g < w.heap.size
  hB : B < w.heap.size
  gB : g ≠ B
section
variable {w wr w' : World} {R g c : Nat} {L : List (List UInt8)} {j : Nat} {e : UInt8} {B base : Nat} {ln : Lx.Ln} {vm vd : Value} {ds : List Lx.Dc}
theorem Dk.new (h : Dk w wr R g c L j e B base ln vm vd ds) (k : Below wr.heap.size wr w') : Dk w w' R g c L j e B base ln vm vd ds :=
  ⟨h.rd.new k, h.box.below k h.box.lt, own_below h.mks k, own_below h.dc k, h.fx.trans (Fx.new k), h.hR, h.hg, h.hB, h.gB⟩
theorem Dk.reads (h : Dk w wr R g c L j e B base ln vm vd ds) {j' : Nat} (k : Fx (· = R) wr w') (hr : Rd w' R g c L j' e) : Dk w w' R g c L j' e B base ln vm vd ds :=
  ⟨hr, k.blk h.box (fun e => blk_ty h.box h.rd.box (by decide) e), k.own h.mks (fun b hb e => own_blk h.mks h.rd.box (by decide) (by rw [← e]; exact hb)), k.own h.dc (fun b hb e => own_blk h.dc h.rd.box (by decide) (by rw [← e]; exact hb)), h.fx.then k (fun b _ e => .inl e), h.hR, h.hg, h.hB, h.gB⟩
end
theorem Dk.new' {w wr w' : World} {R g c : Nat} {L : List (List UInt8)} {j : Nat} {e : UInt8} {B base : Nat} {ln : Lx.Ln} {vm vd : Value} {ds : List Lx.Dc} (h : Dk w wr R g c L j e B base ln vm vd ds) {gd : Nat} {cs0 : Array Value} (k : wr.grownBy w' (some gd)) (hgd : w.heap.size ≤ gd) (hD : Blk wr gd 83 cs0) (hv : vd.ownBlock ≠ some gd) : Dk w w' R g c L j e B base ln vm vd ds := by
  have hF := Fx.row1 k
  have h1 := h.hR
  have h2 := h.hg
  have h3 := h.hB
  exact ⟨h.rd.fx hF (by omega) (by omega), hF.blk h.box (by omega), hF.own h.mks (fun b hb e => own_blk h.mks hD (by decide) (by rw [← e]; exact hb)), hF.own h.dc (fun b hb e => hv (by rw [← e]; exact hb)), h.fx.then hF (fun b hb e => by omega), h1, h2, h3, h.gB⟩
theorem own_own {w : World} {b b' k k' n n' : Nat} {e e' : TypeId} {v v' : Value} {xs xs' : List Value} (h : w.ownsRow b e k v n xs) (h' : w.ownsRow b' e' k' v' n' xs') (hne : e ≠ e') : v.ownBlock = none ∨ v.ownBlock ≠ v'.ownBlock := by
  rcases h.2 with ⟨rfl, _⟩ | ⟨g, cap, cur, rfl, _, hg, _⟩
  · exact .inl rfl
  · right
    rcases h'.2 with ⟨rfl, _⟩ | ⟨g', cap', cur', rfl, _, hg', _⟩
    · simp [Value.ownBlock]
    · intro he
      have : g = g' := by simpa [Value.ownBlock] using he
      subst this
      rw [hg] at hg'
      injection hg' with hg'
      injection hg' with _ ht
      exact hne ht
theorem Dk.push {w wx w1 : World} {R g c : Nat} {L : List (List UInt8)} {j : Nat} {e : UInt8} {B base : Nat} {ln : Lx.Ln} {vm vd v1 : Value} {ds : List Lx.Dc} {d : Lx.Dc} {o : Obj} (h : Dk w wx R g c L j e B base ln vm vd ds)
    (h1 : w1.ownsRow w.heap.size 83 4 v1 (ds.length + 1) (dcC ds ++ dcL d)) (hg : (wx.alloc o).grownBy w1 vd.ownBlock) :
    Dk w (w1.setCell ⟨B, 3, none⟩ v1) R g c L j e B base ln vm v1 (ds ++ [d]) := by
  have hlt : ∀ b, vd.ownBlock = some b → w.heap.size ≤ b := fun b hb => (h.dc.lt b hb).1
  have hbl := (Below.refl wx.heap.size wx).alloc (Nat.le_refl _) o
  have hA := h.new hbl
  have hF : Fx (fun b => vd.ownBlock = some b) (wx.alloc o) w1 := Fx.of_grown hg
  have hRd := hA.rd.fx hF (fun e => by have := hlt _ e; have := h.hR; omega) (fun e => by have := hlt _ e; have := h.hg; omega)
  have hbox := hF.blk hA.box (fun e => by have := hlt _ e; have := h.hB; omega)
  have hmk : w1.ownsRow base 136 3 vm ln.marks.length (mkC ln.marks) := hA.mks.kept hg (own_own hA.mks hA.dc (by decide))
  have hs := Fx.set w1 B 3 v1
  refine ⟨hRd.fx hs (fun e => ?_) (fun e => ?_), ?_, hs.own hmk (fun b hb e => own_blk hmk hbox (by decide) (by rw [← e]; exact hb)), ?_, ?_, h.hR, h.hg, h.hB, h.gB⟩
  · exact blk_ty h.rd.box h.box (by decide) e
  · exact h.gB e
  · have := hbox.set_ 3 v1
    simpa using this
  · rw [List.length_append, List.length_singleton, dcC_snoc]
    exact hs.own h1 (fun b hb e => own_blk h1 hbox (by decide) (by rw [← e]; exact hb))
  · exact (h.fx.trans (Fx.new hbl)).then hF (fun b hb e => by have := hlt _ e; omega) |>.then hs (fun b _ e => .inr e)
/-- what documents answers. -/
def DocsAns (w w' : World) (R g c : Nat) (L : List (List UInt8)) (e : UInt8) (B base : Nat) (ln : Lx.Ln) (vm : Value) (RES : Lx.Err ⊕ (List Lx.Dc × Nat)) (r : Ending) : Prop := match RES with
  | .inl z => r = .returned (eFault (z.1 : Int) z.2.1 z.2.2)
  | .inr (ds, m) => r = .returned .nilIface ∧ m ≤ L.length ∧ ∃ vd, Dk w w' R g c L m e B base ln vm vd ds
theorem splitW_err {s : List UInt8} (hs : s.length ≤ 2000000) (esc : UInt8) (w : World) {q : Nat} (H : Hid (Lx.wordsL s esc = .inl q)) : Calls Tryz.prog 103 #[.string (bs s), .int .u8 (esc.toNat : Int)] w fun e w' => e = .returned (.tuple #[.slice none 0 0, eFault 18 0 (q : Int)]) ∧ Below w.heap.size w w' :=
  (splitW_any s hs esc w H).mono fun _ _ ⟨h1, h2⟩ => ⟨h1, h2⟩
theorem splitW_ok {s : List UInt8} (hs : s.length ≤ 2000000) (esc : UInt8) (w : World) {ws : List Lx.Wd} (H : Hid (Lx.wordsL s esc = .inr ws)) : Calls Tryz.prog 103 #[.string (bs s), .int .u8 (esc.toNat : Int)] w fun e w' => ∃ A c, e = .returned (.tuple #[.slice A ws.length c, .nilIface]) ∧ w'.ownsRow w.heap.size 146 2 (.slice A ws.length c) ws.length (wdC ws) ∧ Below w.heap.size w w' :=
  (splitW_any s hs esc w H).mono fun _ _ ⟨⟨v, h1, h2⟩, h3⟩ => by
    obtain ⟨A, c, rfl⟩ := ownk_form h2
    exact ⟨A, c, h1, h2, h3⟩
theorem opening_yes {raw : List UInt8} (hs : raw.length ≤ 2000000) (h2 : 2 ≤ raw.length) (w : World) (h : Lx.nameOk (Lx.openName raw) = true) : Calls Tryz.prog 106 #[.string (bs raw)] w fun e w' => e = .returned (.tuple #[.agg #[.string (bs (Lx.openName raw)), .bool (Lx.openRaw raw), .int .i64 0, .string ⟨#[]⟩], .bool (Lx.openTabs raw), .bool true]) ∧ Below w.heap.size w w' :=
  (opening_any raw hs h2 w).mono fun _ _ ⟨h1, h2⟩ => ⟨by rw [OpenAns, if_pos h] at h1; exact h1, h2⟩
theorem opening_no {raw : List UInt8} (hs : raw.length ≤ 2000000) (h2 : 2 ≤ raw.length) (w : World) (h : Lx.nameOk (Lx.openName raw) = false) : Calls Tryz.prog 106 #[.string (bs raw)] w fun e w' => ∃ n q t, e = .returned (.tuple #[.agg #[.string n, .bool q, .int .i64 0, .string ⟨#[]⟩], .bool t, .bool false]) ∧ Below w.heap.size w w' :=
  (opening_any raw hs h2 w).mono fun _ _ ⟨h1, h2⟩ => by
    rw [OpenAns, if_neg (by rw [h]; simp)] at h1
    obtain ⟨n, q, t, h3⟩ := h1
    exact ⟨n, q, t, h3, h2⟩
theorem document_none {w : World} {R g c : Nat} {L : List (List UInt8)} {i : Nat} {e : UInt8} (n : List UInt8) (q tb : Bool) (hr : Rd w R g c L i e) (hi : i ≤ L.length) (hL : L.length ≤ 5000) (hx : Hid (∀ x ∈ L, x.length ≤ 70000)) (H : Hid (Lx.bodyL n tb (L.drop i) [] i = none)) :
    Calls Tryz.prog 107 #[.pointer (some ⟨R, 0, none⟩), .agg #[.string (bs n), .bool q, .int .i64 0, .string ⟨#[]⟩], .bool tb] w fun r w' => r = .returned (.tuple #[.agg #[.string ⟨#[]⟩, .bool false, .int .i64 0, .string ⟨#[]⟩], .bool false]) ∧ Fx (· = R) w w' :=
  (document_any n q tb hr hi hL hx H).mono fun _ _ ⟨h1, h2⟩ => ⟨h1, h2⟩
theorem document_some {w : World} {R g c : Nat} {L : List (List UInt8)} {i : Nat} {e : UInt8} (n : List UInt8) (q tb : Bool) (hr : Rd w R g c L i e) (hi : i ≤ L.length) (hL : L.length ≤ 5000) (hx : Hid (∀ x ∈ L, x.length ≤ 70000)) {t : List UInt8} {m : Nat} (H : Hid (Lx.bodyL n tb (L.drop i) [] i = some (t, m))) :
    Calls Tryz.prog 107 #[.pointer (some ⟨R, 0, none⟩), .agg #[.string (bs n), .bool q, .int .i64 0, .string ⟨#[]⟩], .bool tb] w fun r w' => r = .returned (.tuple #[.agg #[.string (bs n), .bool q, .int .i64 ((i : Int) + 1), .string (bs t)], .bool true]) ∧ (m ≤ L.length ∧ Rd w' R g c L m e) ∧ Fx (· = R) w w' :=
  (document_any n q tb hr hi hL hx H).mono fun _ _ ⟨h1, h2⟩ => ⟨h1.1, h1.2, h2⟩
theorem isDoc_len {raw : List UInt8} (h : Lx.isDoc raw = true) : 2 ≤ raw.length := by
  cases raw with
  | nil => cases h
  | cons a r =>
    cases r with
    | nil => simp [Lx.isDoc, List.isPrefixOf] at h
    | cons b r => simp
section
variable {L : List (List UInt8)} {ln : Lx.Ln} {x : Lx.Wd} {ws : List Lx.Wd} {j : Nat} {ds : List Lx.Dc}
theorem docsW_skip (h : Lx.isDoc x.raw = false) : Lx.docsW L ln (x :: ws) j ds = Lx.docsW L ln ws j ds := by rw [Lx.docsW, if_neg (by rw [h]; simp)]
theorem docsW_name (h : Lx.isDoc x.raw = true) (h2 : Lx.nameOk (Lx.openName x.raw) = false) : Lx.docsW L ln (x :: ws) j ds = .inl (Lx.errAt 26 (Lx.placeL ln x.at_)) := by rw [Lx.docsW, if_pos h, if_neg (by rw [h2]; simp)]
theorem docsW_end (h : Lx.isDoc x.raw = true) (h2 : Lx.nameOk (Lx.openName x.raw) = true) (h3 : Lx.bodyL (Lx.openName x.raw) (Lx.openTabs x.raw) (L.drop j) [] j = none) : Lx.docsW L ln (x :: ws) j ds = .inl (Lx.errAt 26 (Lx.placeL ln x.at_)) := by rw [Lx.docsW, if_pos h, if_pos h2, h3]
theorem docsW_doc (h : Lx.isDoc x.raw = true) (h2 : Lx.nameOk (Lx.openName x.raw) = true) {t : List UInt8} {m : Nat} (h3 : Lx.bodyL (Lx.openName x.raw) (Lx.openTabs x.raw) (L.drop j) [] j = some (t, m)) :
    Lx.docsW L ln (x :: ws) j ds = Lx.docsW L ln ws m (ds ++ [⟨Lx.openName x.raw, Lx.openRaw x.raw, (j : Int) + 1, t⟩]) := by rw [Lx.docsW, if_pos h, if_pos h2, h3]
end
theorem docsL_err {e : UInt8} {L : List (List UInt8)} {ln : Lx.Ln} {i q : Nat} (h1 : Lx.copL ln.text = true) (h2 : Lx.wordsL ln.text e = .inl q) : Lx.docsL e L ln i = .inl (Lx.errAt 18 (Lx.placeL ln q)) := by
  rw [Lx.docsL, if_pos h1, h2]
theorem docsL_ok {e : UInt8} {L : List (List UInt8)} {ln : Lx.Ln} {i : Nat} {ws : List Lx.Wd} (h1 : Lx.copL ln.text = true) (h2 : Lx.wordsL ln.text e = .inr ws) : Lx.docsL e L ln i = Lx.docsW L ln ws.tail i [] := by
  rw [Lx.docsL, if_pos h1, h2]
set_option maxRecDepth 100000 in
set_option maxHeartbeats 8000000 in
theorem documents_any {w : World} {R g c : Nat} {L : List (List UInt8)} {i : Nat} {e : UInt8} {B base : Nat} {ln : Lx.Ln} {vm : Value} (hk : Dk w w R g c L i e B base ln vm (.slice none 0 0) []) (hv : ErrVar w) (hi : i ≤ L.length) (hL : L.length ≤ 5000) (hx : Hid (∀ x ∈ L, x.length ≤ 70000)) (ht : ln.text.length ≤ 2000000) (hn : ln.marks.length ≤ 1000000)
    {RES : Lx.Err ⊕ (List Lx.Dc × Nat)} (H : Hid (Lx.docsL e L ln i = RES)) :
    Calls Tryz.prog 42 #[.pointer (some ⟨R, 0, none⟩), .pointer (some ⟨B, 0, none⟩)] w fun r w' => DocsAns w w' R g c L e B base ln vm RES r ∧ Fx (fun b => b = R ∨ b = B) w w' := by
  have HK := Lib.hid hk
  have HV := Lib.hid hv
  have k1 : w.cell? ⟨B, 1, none⟩ = some (.string (bs ln.text)) := hk.box.cell 1
  obtain ⟨cb, hcb⟩ : ∃ b, Hid (Lx.copL ln.text = b) := ⟨_, Lib.hid rfl⟩
  clear hk hv
  cases cb with
  | false =>
    have HR : Hid (RES = .inr ([], i)) := by show _ = _; rw [← H.out, Lx.docsL, hcb.out]; rfl
    go_enter Tryz.func42, Tryz.ntmps42
    go_wp2_with fail
    refine (copies_any ln.text (by omega) _ hcb).mono ?_
    rintro r w1 ⟨rfl, b1⟩
    have hK1 := HK.out.new b1
    go_wp2_with fail
    go_ret
    refine ⟨?_, Fx.new b1⟩
    rw [HR.out]
    exact ⟨rfl, hi, _, hK1⟩
  | true =>
    cases hW : Lx.wordsL ln.text e with
    | inl q =>
      have HW := Lib.hid hW
      have HR : Hid (RES = .inl (Lx.errAt 18 (Lx.placeL ln q))) := by show _ = _; rw [← H.out, docsL_err hcb.out hW]
      have hql := Lx.words_q hW
      clear hW H
      go_enter Tryz.func42, Tryz.ntmps42
      go_wp2_with fail
      refine (copies_any ln.text (by omega) _ hcb).mono ?_
      rintro r w1 ⟨rfl, b1⟩
      have hK1 := HK.out.new b1
      have hV1 := HV.out.below b1 HV.out.lt
      have c1 : w1.cell? ⟨B, 1, none⟩ = some (.string (bs ln.text)) := hK1.box.cell 1
      have c2 : w1.cell? ⟨R, 2, none⟩ = some (.int .u8 (e.toNat : Int)) := hK1.rd.box.cell 2
      have HK1 := Lib.hid hK1
      have HV1 := Lib.hid hV1
      have hbe : e.toNat < 256 := UInt8.toNat_lt _
      have hsz1 := b1.size
      clear hK1 hV1 b1 HK HV k1
      go_upto_region 3 with fail
      go_region_held3 (fun w' => w'.cell? ⟨B, 1, none⟩ = some (.string (bs ln.text)) ∧ w'.cell? ⟨R, 2, none⟩ = some (.int .u8 (e.toNat : Int))) (exact ⟨c1, c2⟩) ((go_at_call 103; refine (splitW_err ht e _ HW).mono ?_; rintro r w9 ⟨rfl, b9⟩; have b9' : Below w1.heap.size w1 w9 := (Below.refl _ _).drew.trans b9; have c1 : w9.cell? ⟨B, 1, none⟩ = some (.string (bs ln.text)) := (HK1.out.new b9').box.cell 1; have c2 : w9.cell? ⟨R, 2, none⟩ = some (.int .u8 (e.toNat : Int)) := (HK1.out.new b9').rd.box.cell 2))
      have hK9 := HK1.out.new b9'
      have hV9 := HV1.out.below b9' HV1.out.lt
      have hB9a := (Below.refl w9.heap.size w9).alloc (Nat.le_refl _) (.cells #[.int .i64 0, .int .i64 0, .int .i64 0] 150)
      have hT9 := Blk.new w9 150 #[.int .i64 0, .int .i64 0, .int .i64 0]
      have hV9a := hV9.below hB9a hV9.lt
      have HK9 := Lib.hid hK9
      have HB9a := Lib.hid hB9a
      have HT9 := Lib.hid hT9
      have HV9a := Lib.hid hV9a
      have hF9 : Fx (fun b => b = R ∨ b = B) w w9 := hK9.fx
      have HF9 := Lib.hid hF9
      clear hK9 hV9 hB9a hT9 hV9a c1 c2 b9 b9' hF9
      go_wp2_with fail
      refine (as_hit 18 0 (q : Int) w9.heap.size _ _ _ _ HV9a.out HT9.out).mono ?_
      rintro r w10 ⟨rfl, hH, hG⟩
      have hB10 : Below w9.heap.size w9 w10 := HB9a.out.grown hG HB9a.out.size (fun k e => by cases e; exact Nat.le_refl _)
      have hK10 := HK9.out.new hB10
      have d0 : w10.cell? ⟨B, 0, none⟩ = some (.int .i64 ln.line) := hK10.box.cell 0
      have d1 : w10.cell? ⟨B, 1, none⟩ = some (.string (bs ln.text)) := hK10.box.cell 1
      have d2 : w10.cell? ⟨B, 2, none⟩ = some vm := hK10.box.cell 2
      have d3 : w10.cell? ⟨B, 3, none⟩ = some (.slice none 0 0) := hK10.box.cell 3
      have d4 : w10.cell? ⟨w9.heap.size, 2, none⟩ = some (.int .i64 (q : Int)) := hH.cell 2
      have hmr := RdRow.own hK10.mks
      obtain ⟨P, hP⟩ : ∃ P, Hid (Lx.placeL ln (q : Int) = P) := ⟨_, Lib.hid rfl⟩
      have HK10 := Lib.hid hK10
      have HH := Lib.hid hH
      have HMR := Lib.hid hmr
      have HF10 := Lib.hid (HF9.out.trans (Fx.new hB10))
      clear hB10 hK10 hH hG hmr HT9 HB9a HV9a HK9
      go_wp2_with fail
      go_region_held3 (fun w' => w'.cell? ⟨B, 0, none⟩ = some (.int .i64 ln.line) ∧ w'.cell? ⟨B, 1, none⟩ = some (.string (bs ln.text)) ∧ w'.cell? ⟨B, 2, none⟩ = some vm ∧ w'.cell? ⟨B, 3, none⟩ = some (.slice none 0 0) ∧ w'.cell? ⟨w9.heap.size, 2, none⟩ = some (.int .i64 (q : Int))) (exact ⟨d0, d1, d2, d3, d4⟩) ((go_at_call 18; refine (place_any ln vm _ _ _ (HMR.out.new (Below.refl _ _).drew) (by omega) hn hP).mono ?_; rintro r w11 ⟨rfl, b11⟩; have b11' : Below w10.heap.size w10 w11 := (Below.refl _ _).drew.trans b11; have hK11 := HK10.out.new b11'; have d0 : w11.cell? ⟨B, 0, none⟩ = some (.int .i64 ln.line) := hK11.box.cell 0; have d1 : w11.cell? ⟨B, 1, none⟩ = some (.string (bs ln.text)) := hK11.box.cell 1; have d2 : w11.cell? ⟨B, 2, none⟩ = some vm := hK11.box.cell 2; have d3 : w11.cell? ⟨B, 3, none⟩ = some (.slice none 0 0) := hK11.box.cell 3; have d4 : w11.cell? ⟨w9.heap.size, 2, none⟩ = some (.int .i64 (q : Int)) := (HH.out.below b11' HH.out.lt).cell 2; clear hK11))
      have HF11 := Lib.hid (HF10.out.trans (Fx.new b11'))
      have HPR : Hid (RES = .inl (18, P.1, P.2)) := by show _ = _; rw [HR.out, hP.out]; rfl
      clear b11 b11' d0 d1 d2 d3 d4
      go_wp2_with fail
      refine (fault_any _ _ _ _).mono ?_
      rintro r w12 ⟨rfl, rfl⟩
      go_wp2_with fail
      go_ret
      refine ⟨?_, HF11.out⟩
      rw [HPR.out]
      rfl
    | inr ws =>
      have HW := Lib.hid hW
      have HR : Hid (Lx.docsW L ln ws.tail i [] = RES) := by show _ = _; rw [← H.out, docsL_ok hcb.out hW]
      have hwl := Lx.words_at hW
      have hwc := Lx.words_count hW
      have hwne : ws ≠ [] := by
        rintro rfl
        have hc := hcb.out
        rw [Lx.copL, Bool.and_eq_true, Bool.and_eq_true, decide_eq_true_eq] at hc
        have h4 := hc.1.1
        refine Lx.words_some ?_ hW
        rw [List.any_eq_true]
        cases hl : Gl.lft ln.text with
        | nil => rw [hl] at h4; simp at h4
        | cons x r =>
          obtain ⟨p, hp, _⟩ := Lx.lft_split ln.text
          rw [hl] at hp
          refine ⟨x, by rw [hp]; simp, ?_⟩
          have := List.head?_dropWhile_not (Gl.bls.contains ·) ln.text
          rw [show ln.text.dropWhile (Gl.bls.contains ·) = x :: r from hl] at this
          rw [← Lx.blank_bls]
          simpa using this
      have HWL := Lib.hid hwl
      have hlen1 : 1 ≤ ws.length := by
        cases ws with
        | nil => exact absurd rfl hwne
        | cons a r => simp
      clear hW H hwl hwne
      go_enter Tryz.func42, Tryz.ntmps42
      go_wp2_with fail
      refine (copies_any ln.text (by omega) _ hcb).mono ?_
      rintro r w1 ⟨rfl, b1⟩
      have hK1 := HK.out.new b1
      have c1 : w1.cell? ⟨B, 1, none⟩ = some (.string (bs ln.text)) := hK1.box.cell 1
      have c2 : w1.cell? ⟨R, 2, none⟩ = some (.int .u8 (e.toNat : Int)) := hK1.rd.box.cell 2
      have HK1 := Lib.hid hK1
      have hbe : e.toNat < 256 := UInt8.toNat_lt _
      have hsz1 := b1.size
      clear hK1 b1 HK HV k1
      go_upto_region 3 with fail
      go_region_held3 (fun w' => w'.cell? ⟨B, 1, none⟩ = some (.string (bs ln.text)) ∧ w'.cell? ⟨R, 2, none⟩ = some (.int .u8 (e.toNat : Int))) (exact ⟨c1, c2⟩) ((go_at_call 103; refine (splitW_ok ht e _ HW).mono ?_; rintro r w9 ⟨WA, Wc, rfl, hO9, b9⟩; have b9' : Below w1.heap.size w1 w9 := (Below.refl _ _).drew.trans b9; have c1 : w9.cell? ⟨B, 1, none⟩ = some (.string (bs ln.text)) := (HK1.out.new b9').box.cell 1; have c2 : w9.cell? ⟨R, 2, none⟩ = some (.int .u8 (e.toNat : Int)) := (HK1.out.new b9').rd.box.cell 2))
      have hK9 := HK1.out.new b9'
      have hO9w := own_base hO9 (show w.heap.size ≤ w1.drew.heap.size from hsz1)
      obtain ⟨gw, hWA, hcap⟩ : ∃ gw, WA = some ⟨gw, 0, none⟩ ∧ ws.length ≤ Wc := by
        rcases hO9.2 with ⟨_, h0⟩ | ⟨g', cap, cur, hv, _, _, hn1, _⟩
        · omega
        · injection hv with h1 _ h3
          exact ⟨g', h1, by omega⟩
      subst hWA
      obtain ⟨ow, how, hsl⟩ := slice_wd gw ws.length Wc hlen1
      obtain ⟨wt, hwt⟩ : ∃ wt, ws.tail = wt := ⟨_, rfl⟩
      have htl : ws.length - 1 = wt.length := by rw [← hwt, List.length_tail]
      rw [htl] at hsl
      have HR2 := HR.out
      rw [hwt] at HR2
      have HR := Lib.hid HR2
      clear HR2
      have HWC : Hid (∀ wx : World, wx.ownsRow w.heap.size 146 2 (.slice (some ⟨gw, 0, none⟩) ws.length Wc) ws.length (wdC ws) → ∀ k (hk : k < wt.length), wx.cell? ⟨gw, ow + k * 2, none⟩ = some (.int .i64 (wt[k].at_ : Int)) ∧ wx.cell? ⟨gw, ow + k * 2 + 1, none⟩ = some (.string (bs wt[k].raw))) := Lib.hid fun wx ho k hk => by
        have hk2 : k + 1 < ws.length := by rw [← htl] at hk; omega
        have ho2 := how (by omega)
        subst ho2
        have hg := wdC_get ws (k + 1) hk2
        have e : wt[k] = ws[k + 1] := by subst hwt; exact List.getElem_tail ..
        rw [e, ← hg.1, ← hg.2]
        have hl : (wdC ws).length = ws.length * 2 := wdC_length ws
        refine ⟨?_, ?_⟩
        · rw [show 2 + k * 2 = (k + 1) * 2 by omega]; exact ho.cellAt _ (by omega)
        · rw [show 2 + k * 2 + 1 = (k + 1) * 2 + 1 by omega]; exact ho.cellAt _ (by omega)
      have hwtl : wt.length ≤ 2000001 := by rw [← htl]; omega
      have HK9 := Lib.hid hK9
      have HO9 := Lib.hid hO9w
      have HTL : Hid (∀ k (hk : k < wt.length), wt[k].at_ < ln.text.length ∧ wt[k].raw.length ≤ ln.text.length) := Lib.hid fun k hk => HWL.out _ (List.mem_of_mem_tail (by rw [hwt]; exact List.getElem_mem hk))
      clear hK9 hO9w hwt htl hcap how c1 c2 b9 b9' hO9
      go_wp2_with fail
      go_loopw [11, 12, 13, 14, 15, 16, 55] (fun _ _ _ _ _ _ t55 wr => ∃ (k j : Nat) (vd : Value) (ds : List Lx.Dc), k ≤ wt.length ∧ t55 = .int .i64 (k : Int) ∧ j ≤ L.length ∧ ds.length ≤ k ∧ Hid (Lx.docsW L ln (wt.drop k) j ds = RES) ∧ Hid (Dk w wr R g c L j e B base ln vm vd ds) ∧ Hid (wr.ownsRow w.heap.size 146 2 (.slice (some ⟨gw, 0, none⟩) ws.length Wc) ws.length (wdC ws))) (fun _ _ _ _ _ _ t55 _ => wt.length - (intOf t55).toNat)
      case atStart => exact ⟨0, i, _, [], by omega, rfl, hi, by simp, HR, HK9, HO9⟩
      case round =>
        clear HR HK9 HO9
        obtain ⟨k, j, vd, ds, hk, rfl, hj, hds, HD, HK, HO⟩ := hrel
        have j0 : (0 : Int) ≤ (k : Int) := by omega
        rcases Nat.lt_or_ge k wt.length with hkn | hkn
        · have i0 : decide ((k : Int) < (wt.length : Int)) = true := by rw [decide_eq_true_eq]; omega
          have i1 : (k : Int) < (wt.length : Int) := by omega
          obtain ⟨x0, x1⟩ := HWC.out _ HO.out k hkn
          have hxl := HTL.out k hkn
          have hdrop : wt.drop k = wt[k] :: wt.drop (k + 1) := List.drop_eq_getElem_cons hkn
          obtain ⟨x, hx2⟩ : ∃ x, wt[k] = x := ⟨_, rfl⟩
          rw [hx2] at x0 x1 hxl hdrop
          have hD := HD.out
          rw [hdrop] at hD
          have HD2 := Lib.hid hD
          have hb2 := (Below.refl wr.heap.size wr).alloc (Nat.le_refl _) (.cells #[.int .i64 (x.at_ : Int), .string (bs x.raw)] 146)
          have hW2 := Blk.new wr 146 #[.int .i64 (x.at_ : Int), .string (bs x.raw)]
          have hK2 := HK.out.new hb2
          have hO2 := own_below HO.out hb2
          obtain ⟨w2, hw2⟩ : ∃ w2, wr.alloc (.cells #[.int .i64 (x.at_ : Int), .string (bs x.raw)] 146) = w2 := ⟨_, rfl⟩
          rw [hw2] at hW2 hK2 hO2
          obtain ⟨gx, hgx⟩ : ∃ gx, wr.heap.size = gx := ⟨_, rfl⟩
          rw [hgx] at hW2
          have HW2 := Lib.hid hw2
          have HGX := Lib.hid hgx
          have HWB := Lib.hid hW2
          have HK2 := Lib.hid hK2
          have HO2 := Lib.hid hO2
          obtain ⟨db, hdb⟩ : ∃ b, Hid (Lx.isDoc x.raw = b) := ⟨_, Lib.hid rfl⟩
          clear hx2 hdrop hD HD hb2 hW2 hK2 hO2 hw2 hgx
          go_upto_region 12 with fail
          rw [HW2.out, HGX.out]
          have y1 : w2.cell? ⟨gx, 1, none⟩ = some (.string (bs x.raw)) := HWB.out.cell 1
          clear x0 x1 HW2 HGX HK HO
          go_wp2_with fail
          refine (hasPrefix_any x.raw _ [60, 60] hdb).mono ?_
          rintro r w9 ⟨rfl, rfl⟩
          cases db with
          | false =>
            have HN : Hid (Lx.docsW L ln (wt.drop (k + 1)) j ds = RES) := by show _ = _; rw [← HD2.out, docsW_skip hdb.out]
            clear HD2 y1
            go_wp2_with fail
            go_roundw
            case rel => exact ⟨k + 1, j, vd, ds, by omega, by go_num, hj, by omega, HN, HK2, HO2⟩
            case measure => simp [intOf]; omega
          | true =>
            have h2l := isDoc_len hdb.out
            obtain ⟨P, hP⟩ : ∃ P, Hid (Lx.placeL ln (x.at_ : Int) = P) := ⟨_, Lib.hid rfl⟩
            have d0 : w2.cell? ⟨B, 0, none⟩ = some (.int .i64 ln.line) := HK2.out.box.cell 0
            have d1 : w2.cell? ⟨B, 1, none⟩ = some (.string (bs ln.text)) := HK2.out.box.cell 1
            have d2 : w2.cell? ⟨B, 2, none⟩ = some vm := HK2.out.box.cell 2
            have d3 : w2.cell? ⟨B, 3, none⟩ = some vd := HK2.out.box.cell 3
            have d4 : w2.cell? ⟨gx, 0, none⟩ = some (.int .i64 (x.at_ : Int)) := HWB.out.cell 0
            have hmr := RdRow.own HK2.out.mks
            have HMR := Lib.hid hmr
            clear hmr y1
            go_upto_region 13 with fail
            go_cut [12, 13] (fun s12 s13 wx => s12 = .int .i64 P.1 ∧ s13 = .int .i64 P.2 ∧ Below w2.heap.size w2 wx)
            case first =>
              go_region_held3 (fun w' => w'.cell? ⟨B, 0, none⟩ = some (.int .i64 ln.line) ∧ w'.cell? ⟨B, 1, none⟩ = some (.string (bs ln.text)) ∧ w'.cell? ⟨B, 2, none⟩ = some vm ∧ w'.cell? ⟨B, 3, none⟩ = some vd ∧ w'.cell? ⟨gx, 0, none⟩ = some (.int .i64 (x.at_ : Int))) (exact ⟨d0, d1, d2, d3, d4⟩) ((go_at_call 18; refine (place_any ln vm _ _ _ (HMR.out.new (Below.refl _ _).drew) (by omega) hn hP).mono ?_; rintro r w11 ⟨rfl, b11⟩; have b11' : Below w2.heap.size w2 w11 := (Below.refl _ _).drew.trans b11; have hK11 := HK2.out.new b11'; have d0 : w11.cell? ⟨B, 0, none⟩ = some (.int .i64 ln.line) := hK11.box.cell 0; have d1 : w11.cell? ⟨B, 1, none⟩ = some (.string (bs ln.text)) := hK11.box.cell 1; have d2 : w11.cell? ⟨B, 2, none⟩ = some vm := hK11.box.cell 2; have d3 : w11.cell? ⟨B, 3, none⟩ = some vd := hK11.box.cell 3; have d4 : w11.cell? ⟨gx, 0, none⟩ = some (.int .i64 (x.at_ : Int)) := (HWB.out.below b11' HWB.out.lt).cell 0; clear hK11))
              go_wp2_with fail
              go_meet
              exact ⟨rfl, rfl, b11'⟩
            case rest =>
              rename World => w3
              obtain ⟨rfl, rfl, b3⟩ := hcut
              have hK3 := HK2.out.new b3
              have hO3 := own_below HO2.out b3
              have hW3 := HWB.out.below b3 HWB.out.lt
              have y1 : w3.cell? ⟨gx, 1, none⟩ = some (.string (bs x.raw)) := hW3.cell 1
              have HK3 := Lib.hid hK3
              have HO3 := Lib.hid hO3
              clear d0 d1 d2 d3 d4 HMR hK3 hO3 hW3 b3 HK2 HO2 HWB
              obtain ⟨ok, hok⟩ : ∃ b, Hid (Lx.nameOk (Lx.openName x.raw) = b) := ⟨_, Lib.hid rfl⟩
              cases ok with
              | false =>
                have HR : Hid (RES = .inl (26, P.1, P.2)) := by show _ = _; rw [← HD2.out, docsW_name hdb.out hok.out, hP.out]; rfl
                go_wp2_with fail
                refine (opening_no (by omega) h2l _ hok.out).mono ?_
                rintro r w4 ⟨n0, q0, t0, rfl, b4⟩
                have hF4 := HK3.out.fx.trans (Fx.new b4)
                have hF5 := hF4.alloc (.cells #[.string n0, .bool q0, .int .i64 0, .string ⟨#[]⟩] 83)
                have HF5 := Lib.hid hF5
                clear b4 hF4 hF5 y1 HD2
                go_wp2_with fail
                refine (fault_any _ _ _ _).mono ?_
                rintro r w12 ⟨rfl, rfl⟩
                go_wp2_with fail
                go_ret
                refine ⟨?_, HF5.out⟩
                rw [HR.out]
                rfl
              | true =>
                obtain ⟨n, hnm⟩ : ∃ n, Hid (Lx.openName x.raw = n) := ⟨_, Lib.hid rfl⟩
                obtain ⟨q, hq⟩ : ∃ q, Hid (Lx.openRaw x.raw = q) := ⟨_, Lib.hid rfl⟩
                obtain ⟨tb, htb⟩ : ∃ t, Hid (Lx.openTabs x.raw = t) := ⟨_, Lib.hid rfl⟩
                have hop := opening_yes (raw := x.raw) (by omega) h2l w3 hok.out
                rw [hnm.out, hq.out, htb.out] at hop
                have HOP := Lib.hid hop
                obtain ⟨BR, hBR⟩ : ∃ b, Hid (Lx.bodyL n tb (L.drop j) [] j = b) := ⟨_, Lib.hid rfl⟩
                clear hop
                go_wp2_with fail
                refine (HOP.out).mono ?_
                rintro r w4 ⟨rfl, b4⟩
                have hK4 := HK3.out.new b4
                have hO4 := own_below HO3.out b4
                have hb5 := (Below.refl w4.heap.size w4).alloc (Nat.le_refl _) (.cells #[.string (bs n), .bool q, .int .i64 0, .string ⟨#[]⟩] 83)
                have hK5 := hK4.new hb5
                have hO5 := own_below hO4 hb5
                have hD5 := Blk.new w4 83 #[.string (bs n), .bool q, .int .i64 0, .string ⟨#[]⟩]
                obtain ⟨w5, hw5⟩ : ∃ w5, w4.alloc (.cells #[.string (bs n), .bool q, .int .i64 0, .string ⟨#[]⟩] 83) = w5 := ⟨_, rfl⟩
                rw [hw5] at hK5 hO5 hD5
                obtain ⟨gd, hgd⟩ : ∃ gd, w4.heap.size = gd := ⟨_, rfl⟩
                rw [hgd] at hD5
                have HW5 := Lib.hid hw5
                have HGD := Lib.hid hgd
                have HVG : Hid (vd.ownBlock ≠ some gd) := Lib.hid fun hb => by have := (hK4.dc.lt gd hb).2; omega
                have HGN : Hid (w.heap.size ≤ gd) := by show _ ≤ _; rw [← hgd]; exact hK4.fx.size
                have HK5 := Lib.hid hK5
                have HO5 := Lib.hid hO5
                have HD5 := Lib.hid hD5
                clear hK4 hO4 hb5 hK5 hO5 hD5 hw5 hgd b4 HK3 HO3 y1
                go_upto_region 15 with fail
                rw [HW5.out, HGD.out]
                clear HW5 HGD
                have z0 : w5.cell? ⟨gd, 0, none⟩ = some (.string (bs n)) := HD5.out.cell 0
                have z1 : w5.cell? ⟨gd, 1, none⟩ = some (.bool q) := HD5.out.cell 1
                have z2 : w5.cell? ⟨gd, 2, none⟩ = some (.int .i64 0) := HD5.out.cell 2
                have z3 : w5.cell? ⟨gd, 3, none⟩ = some (.string ⟨#[]⟩) := HD5.out.cell 3
                have hgdR : gd ≠ R := blk_ty HD5.out HK5.out.rd.box (by decide)
                cases BR with
                | none =>
                  have HR : Hid (RES = .inl (26, P.1, P.2)) := by show _ = _; rw [← HD2.out, docsW_end hdb.out hok.out (by rw [hnm.out, htb.out]; exact hBR.out), hP.out]; rfl
                  go_wp2_with fail
                  refine (document_none n q tb HK5.out.rd hj hL hx hBR).mono ?_
                  rintro r w6 ⟨rfl, hF6⟩
                  have hD6 := hF6.blk HD5.out hgdR
                  have HD6 := Lib.hid hD6
                  have HF6 := Lib.hid (HK5.out.fx.then hF6 (fun b _ e => .inl e))
                  clear hD6 hF6 z0 z1 z2 z3 HD2
                  have hgdn : ∀ b, b < w.heap.size → b = gd → (b = R ∨ b = B) := fun b hb e => by
                    exfalso
                    have h1 := HGN.out
                    omega
                  go_wp2_with (refine wpList_store_st rfl _ _ _ rfl docT gd _ _ rfl rfl HD6.out rfl rfl rfl ?_; intro w7 hB7 hg7 hz7)
                  have HF7 := Lib.hid (HF6.out.then (Fx.row1 hg7) hgdn)
                  clear hg7
                  go_wp2_with fail
                  refine (fault_any _ _ _ _).mono ?_
                  rintro r w12 ⟨rfl, rfl⟩
                  go_wp2_with fail
                  go_ret
                  refine ⟨?_, HF7.out⟩
                  rw [HR.out]
                  rfl
                | some tm =>
                  obtain ⟨t, m⟩ := tm
                  have HN : Hid (Lx.docsW L ln (wt.drop (k + 1)) m (ds ++ [⟨n, q, (j : Int) + 1, t⟩]) = RES) := by show _ = _; rw [← HD2.out, docsW_doc hdb.out hok.out (by rw [hnm.out, htb.out]; exact hBR.out), hnm.out, hq.out]
                  go_wp2_with fail
                  refine (document_some n q tb HK5.out.rd hj hL hx hBR).mono ?_
                  rintro r w6 ⟨rfl, ⟨hm6, hR6⟩, hF6⟩
                  have hK6 := HK5.out.reads hF6 hR6
                  have hO6 := hF6.own HO5.out (fun b hb e => own_blk HO5.out HK5.out.rd.box (by decide) (by rw [← e]; exact hb))
                  have hD6 := hF6.blk HD5.out hgdR
                  have HD6 := Lib.hid hD6
                  have HK6 := Lib.hid hK6
                  have HO6 := Lib.hid hO6
                  clear hD6 hK6 hO6 hF6 hR6 z0 z1 z2 z3 HD2
                  have hgdn : gd ≠ B := fun e => by have h1 := HGN.out; have h2 := HK6.out.hB; omega
                  go_wp2_with (refine wpList_store_st rfl _ _ _ rfl docT gd #[.string (bs n), .bool q, .int .i64 ((j : Int) + 1), .string (bs t)] _ rfl rfl HD6.out rfl rfl rfl ?_; intro w7 hB7 hg7 hz7)
                  have hK7 := HK6.out.new' hg7 HGN.out HD6.out HVG.out
                  have hO7 := (Fx.row1 hg7).own HO6.out (fun b hb e => own_blk HO6.out HD6.out (by decide) (by rw [← e]; exact hb))
                  obtain ⟨VA, vc, hvd⟩ := ownk_form hK7.dc
                  subst hvd
                  have e3 : w7.cell? ⟨B, 3, none⟩ = some (.slice VA ds.length vc) := hK7.box.cell 3
                  have g3 := hK7.box.frozen 3
                  have z0 : w7.cell? ⟨gd, 0, none⟩ = some (.string (bs n)) := hB7.cell 0
                  have z1 : w7.cell? ⟨gd, 1, none⟩ = some (.bool q) := hB7.cell 1
                  have z2 : w7.cell? ⟨gd, 2, none⟩ = some (.int .i64 ((j : Int) + 1)) := hB7.cell 2
                  have z3 : w7.cell? ⟨gd, 3, none⟩ = some (.string (bs t)) := hB7.cell 3
                  have hown := hK7.dc
                  have hBsz := hK7.box.lt
                  have hszw : w.heap.size ≤ w7.heap.size := hK7.fx.size
                  have hneB := own_blk hown hK7.box (by decide)
                  have hbox := hK7.box
                  have HK7 := Lib.hid hK7
                  have HO7 := Lib.hid hO7
                  have hbb := Below.refl w.heap.size w7
                  clear hK7 hO7 hg7 hB7 hz7 HK6 HO6 HD6
                  go_region_law (refine step_appk rfl _ _ _ rfl docK _ _ _ _ rfl (hown.alloc _) _ _ _ _ rfl rfl (news_at _ _ (by simp) _ _) (by simp [Value.oneCell']) (by omega) (by omega) (hbb.alloc hszw _).drew (by simp; omega) ?_; intro v1 w8 ho1 hb1 hg1 hat1; obtain ⟨B1, q1, rfl⟩ := ownk_form ho1; have hbx1 := hg1.block B (by simp; omega) (fun e => hneB e.symm); have hbx2 : Blk w8 B 64 #[.int .i64 ln.line, .string (bs ln.text), vm, .slice VA ds.length vc] := hbx1.trans (Blk.alloc hbox _); have kB3 : w8.cell? ⟨B, 3, none⟩ = some (.slice VA ds.length vc) := hbx2.cell 3; have fB3 := hbx2.frozen 3; have hg2 : (w7.alloc (.cells #[.string (bs n), .bool q, .int .i64 ((j : Int) + 1), .string (bs t)] 83)).grownBy w8 (Value.slice VA ds.length vc).ownBlock := ⟨hg1.os, hg1.tape, hg1.output, hg1.size, fun k hk hn => hg1.block k hk hn⟩; clear hbx1 hg1 hat1)
                  all_goals (
                    have hP8 := HK7.out.push (d := ⟨n, q, (j : Int) + 1, t⟩) ho1 hg2
                    have hO8 : w8.ownsRow w.heap.size 146 2 (.slice (some ⟨gw, 0, none⟩) ws.length Wc) ws.length (wdC ws) := (HO7.out.alloc _).kept hg2 (own_own HO7.out HK7.out.dc (by decide))
                    have hO9 := (Fx.set w8 B 3 (.slice B1 (ds.length + 1) q1)).own hO8 (fun b hb e => own_blk hO8 hbx2 (by decide) (by rw [← e]; exact hb))
                    have HP8 := Lib.hid hP8
                    have HO9 := Lib.hid hO9
                    clear hP8 hO9 hO8 ho1 hg2 hb1 hbx2 kB3 fB3
                    go_wp2_with fail
                    go_roundw
                    case rel => exact ⟨k + 1, m, _, ds ++ [⟨n, q, (j : Int) + 1, t⟩], by omega, by go_num, hm6, by rw [List.length_append, List.length_singleton]; omega, HN, HP8, HO9⟩
                    case measure => simp [intOf]; omega)
        · have i0 : decide ((k : Int) < (wt.length : Int)) = false := by rw [decide_eq_false_iff_not]; omega
          have HRR : Hid (RES = .inr (ds, j)) := by show _ = _; rw [← HD.out, List.drop_eq_nil_of_le hkn, Lx.docsW]
          clear HD
          go_wp2_with fail
          go_ret
          refine ⟨?_, HK.out.fx⟩
          rw [HRR.out]
          exact ⟨rfl, hj, _, HK.out⟩
end Go.Proofs.YtpgnfianffjpnaaGreatDoor
