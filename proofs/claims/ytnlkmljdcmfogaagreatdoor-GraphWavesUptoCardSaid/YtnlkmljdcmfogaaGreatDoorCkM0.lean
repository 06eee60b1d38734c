/- Build files in memory. Slices: none, one in a block of its own. What check.Ref asks of the library: strings.Cut, Split, Trim, IndexByte. A list that was lent. The waves of a plan, plain: one spec for the program and the document. Plans in memory. The element type string. strataref18: small, letter, digit, tag, walked. strataref18: tag, walked. -/
import Derived.Test.YtnlkmljdcmfogaaGreatDoorOwn0
import Derived.Test.YtnlkmljdcmfogaaGreatDoorLxA0
import Derived.Test.YtnlkmljdcmfogaaGreatDoorProg
import Derived.Ground.NamesProg
import Derived.Test.YtnlkmljdcmfogaaGreatDoorCut0
import Derived.Shelf.Abstract
import Derived.Shelf.RegionOpen
import Derived.Shelf.Strings.SlTrimAscii
import Derived.Shelf.Strings.Split
import Derived.Shelf.Strings.Cut
import Derived.Shelf.Strings.Prefix
import Derived.Shelf.Strings.Search1
import Derived.Shelf.Small.Wraps
import Derived.WalkKit
import Derived.IntWalk
import Derived.Deep.DeepCutAuto
namespace Go.Proofs.YtnlkmljdcmfogaaGreatDoor
open Go Go.RowKit
/-- cells of pairs, of documents. -/
def prL (p : Ck.Pr) : List Value := [.string (bs p.key), .string (bs p.val)]
def prC (l : List Ck.Pr) : List Value := l.flatMap prL
def doL (d : Lx.Dc) : List Value := [.string (bs d.name), .bool d.raw, .int .i64 d.line, .string (bs d.text)]
def doC (l : List Lx.Dc) : List Value := l.flatMap doL
/-- a step, and its slices. -/
structure SM where
  s : Ck.St
  vp : Value
  vw : Value
  vd : Value
  ve : Value
def smL (m : SM) : List Value := [.int .i64 m.s.op, .int .i64 m.s.line, .string (bs m.s.from_), .string (bs m.s.mode), .bool m.s.force, m.vp, .bool m.s.bare, m.vw, m.vd, m.ve]
structure SM.Ok (w : World) (m : SM) : Prop where
  cp : SlA w m.vp m.s.pairs.length (prC m.s.pairs)
  cw : SlA w m.vw m.s.words.length (sc m.s.words)
  cd : SlA w m.vd m.s.docs.length (doC m.s.docs)
  ce : SlA w m.ve m.s.exec.length (sc m.s.exec)
  dn : ∀ A n c, m.vd = .slice A n c → n ≤ c
theorem SM.Ok.new {w w' : World} {m : SM} (h : m.Ok w) (k : Below w.heap.size w w') : m.Ok w' := ⟨h.cp.new k, h.cw.new k, h.cd.new k, h.ce.new k, h.dn⟩
def smC (l : List SM) : List Value := l.flatMap smL
/-- a slice of steps. -/
def StsA (w : World) (v : Value) (l : List SM) : Prop := SlA w v l.length (smC l) ∧ ∀ m ∈ l, m.Ok w
theorem StsA.new {w w' : World} {v : Value} {l : List SM} (h : StsA w v l) (k : Below w.heap.size w w') : StsA w' v l := ⟨h.1.new k, fun m hm => (h.2 m hm).new k⟩
/-- a stage, and its slice. -/
structure GM where
  line : Int
  base : List UInt8
  name : List UInt8
  vs : Value
  ms : List SM
def gmL (g : GM) : List Value := [.int .i64 g.line, .string (bs g.base), .string (bs g.name), g.vs]
def gmC (l : List GM) : List Value := l.flatMap gmL
def GsA (w : World) (v : Value) (l : List GM) : Prop := SlA w v l.length (gmC l) ∧ ∀ g ∈ l, StsA w g.vs g.ms
theorem GsA.new {w w' : World} {v : Value} {l : List GM} (h : GsA w v l) (k : Below w.heap.size w w') : GsA w' v l := ⟨h.1.new k, fun g hg => (h.2 g hg).new k⟩
def SM.st (m : SM) : Ck.St := m.s
def GM.sg (g : GM) : Ck.Sg := ⟨g.line, g.base, g.name, g.ms.map SM.s⟩
/-- a file. -/
structure FM where
  escape : UInt8
  va : Value
  args : List SM
  vg : Value
  stages : List GM
def FM.val (f : FM) : Value := .agg #[.int .u8 (f.escape.toNat : Int), f.va, f.vg]
structure FM.Ok (w : World) (f : FM) : Prop where
  a : StsA w f.va f.args
  g : GsA w f.vg f.stages
theorem FM.Ok.new {w w' : World} {f : FM} (h : f.Ok w) (k : Below w.heap.size w w') : f.Ok w' := ⟨h.a.new k, h.g.new k⟩
def FM.fl (f : FM) : Ck.Fl := ⟨f.escape, f.args.map SM.s, f.stages.map GM.sg⟩
/-- elements of k cells, flat. -/
theorem flat_at {α : Type} {f : α → List Value} {k : Nat} (hf : ∀ x, (f x).length = k) : ∀ (l : List α) (i q : Nat) (hi : i < l.length), q < k → (l.flatMap f)[i * k + q]? = (f l[i])[q]?
  | [], _, _, h, _ => absurd h (by simp)
  | x :: l, 0, q, _, hq => by
    rw [List.flatMap_cons, Nat.zero_mul, Nat.zero_add, List.getElem?_append_left (by rw [hf]; exact hq)]
    rfl
  | x :: l, i + 1, q, h, hq => by
    have ih := flat_at hf l i q (by simpa using h) hq
    rw [List.flatMap_cons, List.getElem?_append_right (by rw [hf, Nat.succ_mul]; omega), hf, show (i + 1) * k + q - k = i * k + q by rw [Nat.succ_mul]; omega, ih]
    rfl
theorem flat_len {α : Type} {f : α → List Value} {k : Nat} (hf : ∀ x, (f x).length = k) : ∀ (l : List α), (l.flatMap f).length = l.length * k
  | [] => by simp
  | x :: l => by rw [List.flatMap_cons, List.length_append, hf, flat_len hf l, List.length_cons, Nat.succ_mul]; omega
section
variable {w : World} {v : Value}
theorem pr_at {l : List Ck.Pr} (h : SlA w v l.length (prC l)) {i : Nat} (hi : i < l.length) : ∃ g o c, v = .slice (some ⟨g, o, none⟩) l.length c ∧ w.cell? ⟨g, o + i * 2, none⟩ = some (.string (bs l[i].key)) ∧ w.cell? ⟨g, o + i * 2 + 1, none⟩ = some (.string (bs l[i].val)) := by
  have e := fun q (hq : q < 2) => flat_at (f := prL) (k := 2) (fun _ => rfl) l i q hi hq
  obtain ⟨g, o, c, rfl, c0⟩ := h.get ((e 0 (by omega)).trans (show _ = some (.string (bs l[i].key)) from rfl))
  obtain ⟨g', o', c', e', c1⟩ := h.get ((e 1 (by omega)).trans (show _ = some (.string (bs l[i].val)) from rfl))
  injection e' with e1 _ _
  injection e1 with e1
  injection e1 with q1 q2
  subst q1 q2
  exact ⟨g, o, c, rfl, c0, by rw [Nat.add_assoc]; exact c1⟩
theorem do_at {l : List Lx.Dc} (h : SlA w v l.length (doC l)) {i : Nat} (hi : i < l.length) : ∃ g o c, v = .slice (some ⟨g, o, none⟩) l.length c ∧ w.cell? ⟨g, o + i * 4, none⟩ = some (.string (bs l[i].name)) ∧ w.cell? ⟨g, o + i * 4 + 1, none⟩ = some (.bool l[i].raw) ∧ w.cell? ⟨g, o + i * 4 + 2, none⟩ = some (.int .i64 l[i].line) ∧ w.cell? ⟨g, o + i * 4 + 3, none⟩ = some (.string (bs l[i].text)) := by
  have e := fun q (hq : q < 4) => flat_at (f := doL) (k := 4) (fun _ => rfl) l i q hi hq
  have h' := h
  rcases h' with ⟨_, h0, _⟩ | ⟨g, o, c, rfl, hc⟩
  · omega
  · exact ⟨g, o, c, rfl, hc _ _ ((e 0 (by omega)).trans rfl), by rw [Nat.add_assoc]; exact hc _ _ ((e 1 (by omega)).trans rfl), by rw [Nat.add_assoc]; exact hc _ _ ((e 2 (by omega)).trans rfl), by rw [Nat.add_assoc]; exact hc _ _ ((e 3 (by omega)).trans rfl)⟩
theorem sc_at {l : List (List UInt8)} (h : SlA w v l.length (sc l)) {i : Nat} (hi : i < l.length) : ∃ g o c, v = .slice (some ⟨g, o, none⟩) l.length c ∧ w.cell? ⟨g, o + i, none⟩ = some (.string (bs l[i])) := by
  have e : (sc l)[i]? = some (.string (bs l[i])) := by simp [sc, hi]
  exact h.get e
theorem sm_at {l : List SM} (h : SlA w v l.length (smC l)) {i : Nat} (hi : i < l.length) : ∃ g o c, v = .slice (some ⟨g, o, none⟩) l.length c ∧ ∀ q, q < 10 → w.cell? ⟨g, o + i * 10 + q, none⟩ = (smL l[i])[q]? := by
  have e := fun q (hq : q < 10) => flat_at (f := smL) (k := 10) (fun _ => rfl) l i q hi hq
  have h' := h
  rcases h' with ⟨_, h0, _⟩ | ⟨g, o, c, rfl, hc⟩
  · omega
  · refine ⟨g, o, c, rfl, fun q hq => ?_⟩
    have hl : q < (smL l[i]).length := hq
    rw [Nat.add_assoc, List.getElem?_eq_getElem hl]
    exact hc _ _ ((e q hq).trans (List.getElem?_eq_getElem hl))
theorem gm_at {l : List GM} (h : SlA w v l.length (gmC l)) {i : Nat} (hi : i < l.length) : ∃ g o c, v = .slice (some ⟨g, o, none⟩) l.length c ∧ ∀ q, q < 4 → w.cell? ⟨g, o + i * 4 + q, none⟩ = (gmL l[i])[q]? := by
  have e := fun q (hq : q < 4) => flat_at (f := gmL) (k := 4) (fun _ => rfl) l i q hi hq
  have h' := h
  rcases h' with ⟨_, h0, _⟩ | ⟨g, o, c, rfl, hc⟩
  · omega
  · refine ⟨g, o, c, rfl, fun q hq => ?_⟩
    have hl : q < (gmL l[i]).length := hq
    rw [Nat.add_assoc, List.getElem?_eq_getElem hl]
    exact hc _ _ ((e q hq).trans (List.getElem?_eq_getElem hl))
end
end Go.Proofs.YtnlkmljdcmfogaaGreatDoor
namespace Go.Proofs.YtnlkmljdcmfogaaGreatDoor
open Go Go.RowKit
theorem SlA.blk {w : World} {g n c : Nat} {t : TypeId} {cs : List Value} (h : Blk w g t cs.toArray) : SlA w (.slice (some ⟨g, 0, none⟩) n c) n cs := .inr ⟨g, 0, c, rfl, fun j u hu => by rw [Nat.zero_add, h.cell]; simpa using hu⟩
theorem SlA.none (w : World) : SlA w (.slice none 0 0) 0 [] := .inl ⟨⟨Option.none, 0, rfl, fun _ => rfl⟩, rfl, rfl⟩
theorem slice_le {A A' : Option Addr} {n n' c c' : Nat} (h : Value.slice A n c = .slice A' n' c') (hle : n ≤ c) : n' ≤ c' := by injection h with _ h1 h2; omega
end Go.Proofs.YtnlkmljdcmfogaaGreatDoor
namespace Go.Proofs.YtnlkmljdcmfogaaGreatDoor
open Go Go.RowKit Go.Shelf
def Tryz.lays160_ren : Go.Shelf.Ren := ⟨fun | 160 => 123 | 232 => 187 | 231 => 186 | 227 => 188 | 234 => 190 | 233 => 189 | 236 => 192 | 235 => 191 | 228 => 243 | 271 => 246 | 151 => 245 | 197 => 244 | 120 => 272 | 152 => 271 | 260 => 270 | 137 => 232 | 119 => 284 | 224 => 280 | 225 => 279 | 217 => 262 | 266 => 277 | n => n, fun | 9 => 9 | 4 => 4 | 3 => 3 | 5 => 5 | 117 => 323 | 116 => 322 | 0 => 0 | 124 => 326 | 21 => 21 | 105 => 384 | 46 => 277 | 119 => 311 | 139 => 314 | 138 => 313 | n => n, fun | 3 => 1 | 4 => 2 | n => n⟩
theorem Tryz.lays160 : Go.Proofs.Lays.n160 Tryz.prog Tryz.lays160_ren := {
  mixed := by kernel_rfl
  f119 := Tryz.func284.trans (congrArg some (by kernel_rfl))
  f120 := Tryz.func272.trans (congrArg some (by kernel_rfl))
  f137 := Tryz.func232.trans (congrArg some (by kernel_rfl))
  f151 := Tryz.func245.trans (congrArg some (by kernel_rfl))
  f152 := Tryz.func271.trans (congrArg some (by kernel_rfl))
  f160 := Tryz.func123.trans (congrArg some (by kernel_rfl))
  f197 := Tryz.func244.trans (congrArg some (by kernel_rfl))
  f217 := Tryz.func262.trans (congrArg some (by kernel_rfl))
  f224 := Tryz.func280.trans (congrArg some (by kernel_rfl))
  f225 := Tryz.func279.trans (congrArg some (by kernel_rfl))
  f227 := Tryz.func188.trans (congrArg some (by kernel_rfl))
  f228 := Tryz.func243.trans (congrArg some (by kernel_rfl))
  f231 := Tryz.func186.trans (congrArg some (by kernel_rfl))
  f232 := Tryz.func187.trans (congrArg some (by kernel_rfl))
  f233 := Tryz.func189.trans (congrArg some (by kernel_rfl))
  f234 := Tryz.func190.trans (congrArg some (by kernel_rfl))
  f235 := Tryz.func191.trans (congrArg some (by kernel_rfl))
  f236 := Tryz.func192.trans (congrArg some (by kernel_rfl))
  f260 := Tryz.func270.trans (congrArg some (by kernel_rfl))
  f266 := Tryz.func277.trans (congrArg some (by kernel_rfl))
  f271 := Tryz.func246.trans (congrArg some (by kernel_rfl))
  t0 := Tryz.underlying0
  a0 := Tryz.isAgg0
  z0 := Tryz.sizeOf0
  v0 := Tryz.zeroValue0
  t3 := Tryz.underlying3
  a3 := Tryz.isAgg3
  z3 := Tryz.sizeOf3
  v3 := Tryz.zeroValue3
  t4 := Tryz.underlying4
  a4 := Tryz.isAgg4
  z4 := Tryz.sizeOf4
  v4 := Tryz.zeroValue4
  t5 := Tryz.underlying5
  a5 := Tryz.isAgg5
  z5 := Tryz.sizeOf5
  v5 := Tryz.zeroValue5
  t9 := Tryz.underlying9
  a9 := Tryz.isAgg9
  z9 := Tryz.sizeOf9
  v9 := Tryz.zeroValue9
  t21 := Tryz.underlying21
  a21 := Tryz.isAgg21
  z21 := Tryz.sizeOf21
  v21 := Tryz.zeroValue21
  t46 := Tryz.underlying277
  a46 := Tryz.isAgg277
  z46 := Tryz.sizeOf277
  v46 := Tryz.zeroValue277
  t105 := Tryz.underlying384
  a105 := Tryz.isAgg384
  z105 := Tryz.sizeOf384
  v105 := Tryz.zeroValue384
  t116 := Tryz.underlying322
  a116 := Tryz.isAgg322
  z116 := Tryz.sizeOf322
  t117 := Tryz.underlying323
  a117 := Tryz.isAgg323
  z117 := Tryz.sizeOf323
  v117 := Tryz.zeroValue323
  t119 := Tryz.underlying311
  a119 := Tryz.isAgg311
  z119 := Tryz.sizeOf311
  t124 := Tryz.underlying326
  a124 := Tryz.isAgg326
  z124 := Tryz.sizeOf326
  v124 := Tryz.zeroValue326
  t138 := Tryz.underlying313
  a138 := Tryz.isAgg313
  z138 := Tryz.sizeOf313
  v138 := Tryz.zeroValue313
  t139 := Tryz.underlying314
  a139 := Tryz.isAgg314
  z139 := Tryz.sizeOf314
  v139 := Tryz.zeroValue314
  g3 := by kernel_rfl
  g4 := by kernel_rfl }
def Tryz.lays146_ren : Go.Shelf.Ren := ⟨fun | 146 => 184 | 221 => 241 | 268 => 268 | 138 => 269 | 143 => 242 | 195 => 282 | 197 => 244 | 218 => 283 | 219 => 267 | 260 => 270 | 217 => 262 | 225 => 279 | 224 => 280 | 267 => 281 | 266 => 277 | 314 => 285 | n => n, fun | 9 => 9 | 31 => 30 | 3 => 3 | 4 => 4 | 0 => 0 | 105 => 384 | 21 => 21 | 5 => 5 | 46 => 277 | 119 => 311 | 139 => 314 | 138 => 313 | 146 => 415 | 51 => 340 | n => n, fun | 1 => 3 | 3 => 1 | 4 => 2 | n => n⟩
theorem Tryz.lays146 : Go.Proofs.Lays.n146 Tryz.prog Tryz.lays146_ren := {
  mixed := by kernel_rfl
  f138 := Tryz.func269.trans (congrArg some (by kernel_rfl))
  f143 := Tryz.func242.trans (congrArg some (by kernel_rfl))
  f146 := Tryz.func184.trans (congrArg some (by kernel_rfl))
  f195 := Tryz.func282.trans (congrArg some (by kernel_rfl))
  f197 := Tryz.func244.trans (congrArg some (by kernel_rfl))
  f217 := Tryz.func262.trans (congrArg some (by kernel_rfl))
  f218 := Tryz.func283.trans (congrArg some (by kernel_rfl))
  f219 := Tryz.func267.trans (congrArg some (by kernel_rfl))
  f221 := Tryz.func241.trans (congrArg some (by kernel_rfl))
  f224 := Tryz.func280.trans (congrArg some (by kernel_rfl))
  f225 := Tryz.func279.trans (congrArg some (by kernel_rfl))
  f260 := Tryz.func270.trans (congrArg some (by kernel_rfl))
  f266 := Tryz.func277.trans (congrArg some (by kernel_rfl))
  f267 := Tryz.func281.trans (congrArg some (by kernel_rfl))
  f268 := Tryz.func268.trans (congrArg some (by kernel_rfl))
  f314 := Tryz.func285.trans (congrArg some (by kernel_rfl))
  t0 := Tryz.underlying0
  a0 := Tryz.isAgg0
  z0 := Tryz.sizeOf0
  v0 := Tryz.zeroValue0
  t3 := Tryz.underlying3
  a3 := Tryz.isAgg3
  z3 := Tryz.sizeOf3
  v3 := Tryz.zeroValue3
  t4 := Tryz.underlying4
  a4 := Tryz.isAgg4
  z4 := Tryz.sizeOf4
  v4 := Tryz.zeroValue4
  t5 := Tryz.underlying5
  a5 := Tryz.isAgg5
  z5 := Tryz.sizeOf5
  v5 := Tryz.zeroValue5
  t9 := Tryz.underlying9
  a9 := Tryz.isAgg9
  z9 := Tryz.sizeOf9
  v9 := Tryz.zeroValue9
  t21 := Tryz.underlying21
  a21 := Tryz.isAgg21
  z21 := Tryz.sizeOf21
  v21 := Tryz.zeroValue21
  t31 := Tryz.underlying30
  a31 := Tryz.isAgg30
  z31 := Tryz.sizeOf30
  v31 := Tryz.zeroValue30
  t46 := Tryz.underlying277
  a46 := Tryz.isAgg277
  z46 := Tryz.sizeOf277
  v46 := Tryz.zeroValue277
  t51 := Tryz.underlying340
  a51 := Tryz.isAgg340
  z51 := Tryz.sizeOf340
  v51 := Tryz.zeroValue340
  t105 := Tryz.underlying384
  a105 := Tryz.isAgg384
  z105 := Tryz.sizeOf384
  v105 := Tryz.zeroValue384
  t119 := Tryz.underlying311
  a119 := Tryz.isAgg311
  z119 := Tryz.sizeOf311
  t138 := Tryz.underlying313
  a138 := Tryz.isAgg313
  z138 := Tryz.sizeOf313
  v138 := Tryz.zeroValue313
  t139 := Tryz.underlying314
  a139 := Tryz.isAgg314
  z139 := Tryz.sizeOf314
  v139 := Tryz.zeroValue314
  t146 := Tryz.underlying415
  a146 := Tryz.isAgg415
  z146 := Tryz.sizeOf415
  v146 := Tryz.zeroValue415
  g1 := by kernel_rfl
  g3 := by kernel_rfl
  g4 := by kernel_rfl }
def Tryz.lays145_ren : Go.Shelf.Ren := ⟨fun | 145 => 183 | 220 => 240 | 219 => 267 | 217 => 262 | 225 => 279 | 224 => 280 | 267 => 281 | 266 => 277 | 314 => 285 | n => n, fun | 9 => 9 | 4 => 4 | 59 => 317 | 3 => 3 | 5 => 5 | 46 => 277 | 146 => 415 | 51 => 340 | n => n, fun | 1 => 3 | n => n⟩
theorem Tryz.lays145 : Go.Proofs.Lays.n145 Tryz.prog Tryz.lays145_ren := {
  mixed := by kernel_rfl
  f145 := Tryz.func183.trans (congrArg some (by kernel_rfl))
  f217 := Tryz.func262.trans (congrArg some (by kernel_rfl))
  f219 := Tryz.func267.trans (congrArg some (by kernel_rfl))
  f220 := Tryz.func240.trans (congrArg some (by kernel_rfl))
  f224 := Tryz.func280.trans (congrArg some (by kernel_rfl))
  f225 := Tryz.func279.trans (congrArg some (by kernel_rfl))
  f266 := Tryz.func277.trans (congrArg some (by kernel_rfl))
  f267 := Tryz.func281.trans (congrArg some (by kernel_rfl))
  f314 := Tryz.func285.trans (congrArg some (by kernel_rfl))
  t3 := Tryz.underlying3
  a3 := Tryz.isAgg3
  z3 := Tryz.sizeOf3
  v3 := Tryz.zeroValue3
  t4 := Tryz.underlying4
  a4 := Tryz.isAgg4
  z4 := Tryz.sizeOf4
  v4 := Tryz.zeroValue4
  t5 := Tryz.underlying5
  a5 := Tryz.isAgg5
  z5 := Tryz.sizeOf5
  v5 := Tryz.zeroValue5
  t9 := Tryz.underlying9
  a9 := Tryz.isAgg9
  z9 := Tryz.sizeOf9
  v9 := Tryz.zeroValue9
  t46 := Tryz.underlying277
  a46 := Tryz.isAgg277
  z46 := Tryz.sizeOf277
  v46 := Tryz.zeroValue277
  t51 := Tryz.underlying340
  a51 := Tryz.isAgg340
  z51 := Tryz.sizeOf340
  v51 := Tryz.zeroValue340
  t59 := Tryz.underlying317
  a59 := Tryz.isAgg317
  z59 := Tryz.sizeOf317
  v59 := Tryz.zeroValue317
  t146 := Tryz.underlying415
  a146 := Tryz.isAgg415
  z146 := Tryz.sizeOf415
  v146 := Tryz.zeroValue415
  g1 := by kernel_rfl }
def Tryz.lays137_ren : Go.Shelf.Ren := ⟨fun | 137 => 232 | 217 => 262 | 266 => 277 | n => n, fun | 9 => 9 | 5 => 5 | 3 => 3 | n => n, fun | n => n⟩
theorem Tryz.lays137 : Go.Proofs.Lays.n137 Tryz.prog Tryz.lays137_ren := {
  mixed := by kernel_rfl
  f137 := Tryz.func232.trans (congrArg some (by kernel_rfl))
  f217 := Tryz.func262.trans (congrArg some (by kernel_rfl))
  f266 := Tryz.func277.trans (congrArg some (by kernel_rfl))
  t3 := Tryz.underlying3
  a3 := Tryz.isAgg3
  z3 := Tryz.sizeOf3
  v3 := Tryz.zeroValue3
  t5 := Tryz.underlying5
  a5 := Tryz.isAgg5
  z5 := Tryz.sizeOf5
  v5 := Tryz.zeroValue5
  t9 := Tryz.underlying9
  a9 := Tryz.isAgg9
  z9 := Tryz.sizeOf9
  v9 := Tryz.zeroValue9 }
/-- the library's variable MaxLen, wherever it lies. -/
def Maxl (w : World) : Prop := ∃ m, w.cell? ⟨Tryz.lays145_ren.g 1, 0, none⟩ = some (.int .i64 m)
theorem Maxl.below {w w' : World} {B : Nat} (h : Maxl w) (hb : Below B w w') (hB : Tryz.lays145_ren.g 1 < B) : Maxl w' := by
  obtain ⟨m, hm⟩ := h
  exact ⟨m, (hb.cell (p := ⟨_, 0, none⟩) hB).trans hm⟩
theorem Maxl.lt {w : World} (h : Maxl w) : Tryz.lays145_ren.g 1 < w.heap.size := by
  obtain ⟨m, hm⟩ := h
  exact World.block_lt_of_cell? w _ hm
theorem Maxl.grow {w w' : World} (h : Maxl w) (hb : Below w.heap.size w w') : Maxl w' := h.below hb h.lt
section
variable (l : List UInt8) (w : World)
theorem trimEdge_any (hs : l.length ≤ 9223372036854775807) {t : List UInt8} (H : Hid (Lib.trimS l [46, 95, 45] = t)) : Calls Tryz.prog 123 #[.string (bs l), .string ⟨#[46, 95, 45]⟩] w fun e w' => e = .returned (.string (bs t)) ∧ Below w.heap.size w w' := by
  rw [← H.out]
  exact Any.strings_Trim_laid Tryz.lays160 (by kernel_rfl) (bs l) ⟨#[46, 95, 45]⟩ w (by rw [bs_size]; exact hs) (by decide) (ascii_of_all (by decide))
theorem split47_any (hs : l.length ≤ 2000000) (hmx : Maxl w) {ls : List (List UInt8)} (H : Hid (Gl.cutL 47 l = ls)) : Calls Tryz.prog 184 #[.string (bs l), .string ⟨#[47]⟩] w fun e w' => e = .returned (.slice (some ⟨w.heap.size, 0, none⟩) ls.length ls.length) ∧ Blk w' w.heap.size 9 (sc ls).toArray ∧ Below w.heap.size w w' := by
  obtain ⟨m, hm⟩ := hmx
  have hc := Any.strings_Split Tryz.lays146 (by kernel_rfl) (bs l) ⟨#[47]⟩ m w (by rw [bs_size]; omega) hm (by decide)
  have e1 : (Lib.splitB ⟨#[47]⟩ 0 (Lib.countB (bs l) ⟨#[47]⟩) (bs l)).map (fun x => x.data.toList) = ls := by
    rw [Lib.splitB_data, ← H.out]
    have e2 : Lib.countB (bs l) ⟨#[47]⟩ = l.count 47 := Lib.count_one 47 _
    rw [e2]
    exact Gl.splitK_cut 47 _ l (Nat.le_refl _)
  have e2 : Lib.countB (bs l) ⟨#[47]⟩ + 1 = ls.length := by
    rw [← e1, List.length_map]
    exact (Lib.splitB_all ⟨#[47]⟩ (by decide) 0 _ (bs l) rfl).symm
  have e3 : (Lib.splitB ⟨#[47]⟩ 0 (Lib.countB (bs l) ⟨#[47]⟩) (bs l)).map Value.string = sc ls := by
    rw [← e1, sc, List.map_map]
    exact List.map_congr_left fun x _ => by rw [Function.comp]; exact congrArg Value.string (bs_bl x).symm
  rw [e2, e3] at hc
  refine hc.mono ?_
  rintro e w' ⟨rfl, rfl⟩
  exact ⟨rfl, Blk.new _ _ _, (Below.refl _ _).alloc (Nat.le_refl _) _⟩
theorem cut58_any (hs : l.length < 4294967281) (hm : Maxl w) {a r : List UInt8} {b : Bool} (hc : Hid (Lib.cut l [58] = (a, r, b))) : Calls Tryz.prog 183 #[.string (bs l), .string ⟨#[58]⟩] w fun e w' => e = .returned (.tuple #[.string (bs a), .string (bs r), .bool b]) ∧ Below w.heap.size w w' := by
  obtain ⟨m, hm⟩ := hm
  have := Any.strings_Cut Tryz.lays145 (bs l) ⟨#[58]⟩ m w (by rw [bs_size]; exact hs) hm
  refine Calls.mono this ?_
  rintro e w' ⟨rfl, n, rfl⟩
  refine ⟨?_, below_drewN (Below.refl _ _) n⟩
  have e1 : (bs l).data.toList = l := bl_bs l
  rw [e1, show (⟨#[58]⟩ : ByteArray).data.toList = [58] from rfl, hc.out]
  rfl
theorem indexByte_any (c : UInt8) {x : Int} (H : Hid (Lib.indexByte l c = x)) : Calls Tryz.prog 232 #[.string (bs l), .int .u8 (c.toNat : Int)] w fun e w' => e = .returned (.int .i64 x) ∧ w = w' := by
  refine (Any.strings_IndexByte Tryz.lays137 (bs l) (c.toNat : Int) w).mono ?_
  rintro e w' ⟨rfl, h⟩
  have e1 : (bs l).data.toList = l := bl_bs l
  have e2 : ((c.toNat : Int)).toNat.toUInt8 = c := by
    rw [Int.toNat_natCast]
    exact UInt8.ofNat_toNat
  rw [e1, e2, H.out]
  exact ⟨rfl, h.symm⟩
end
/-- strings.Cut at a colon: with one, or without. -/
theorem cut58_yes {a r : List UInt8} (ha : ∀ c ∈ a, c ≠ 58) : Lib.cut (a ++ 58 :: r) [58] = (a, r, true) := by
  rcases Gl.index_byte 58 (a ++ 58 :: r) with ⟨_, h⟩ | ⟨x, y, h1, h2, h3⟩
  · exact absurd rfl (h 58 (by simp))
  · have : a = x ∧ r = y := by
      clear h3
      induction a generalizing x with
      | nil =>
        cases x with
        | nil => injection h1 with _ h1; exact ⟨rfl, h1⟩
        | cons c x => injection h1 with h1 _; exact absurd h1.symm (h2 c (by simp))
      | cons d a ih =>
        cases x with
        | nil => injection h1 with h1 _; exact absurd h1 (ha d (by simp))
        | cons c x =>
          injection h1 with h1 h4
          obtain ⟨q1, q2⟩ := ih (fun z hz => ha z (by simp [hz])) x h4 (fun z hz => h2 z (by simp [hz]))
          exact ⟨by rw [h1, q1], q2⟩
    obtain ⟨rfl, rfl⟩ := this
    unfold Lib.cut
    rw [h3]
    simp
theorem cut58_no {s : List UInt8} (hs : ∀ c ∈ s, c ≠ 58) : Lib.cut s [58] = (s, [], false) := by
  rcases Gl.index_byte 58 s with ⟨h, _⟩ | ⟨x, y, h1, _, _⟩
  · unfold Lib.cut
    rw [h]
    simp
  · exact absurd rfl (hs 58 (by rw [h1]; simp))
end Go.Proofs.YtnlkmljdcmfogaaGreatDoor
namespace Go.Proofs.YtnlkmljdcmfogaaGreatDoor
open Go Go.RowKit
theorem fx_set18 (w : World) (R i : Nat) (u : Value) : Fx (fun b => b = R) w (w.setCell ⟨R, i, none⟩ u) := ⟨rfl, rfl, rfl, by rw [setCell_size]; exact Nat.le_refl _, fun b _ hn => RowKit.Below.heap_setCell _ _ _ _ hn⟩
/-- a list that was lent: a row of the call's own with sixteen elements behind, in a block that is not of X. -/
def LtV (w : World) (X : Nat → Prop) (v : Value) (n : Nat) (cs : List Value) : Prop := ∃ g c, v = .slice (some ⟨g, 0, none⟩) n c ∧ n + 16 ≤ c ∧ ¬ X g ∧ g < w.heap.size ∧ ∀ (j : Nat) (u : Value), cs[j]? = some u → w.cell? ⟨g, j, none⟩ = some u
section
variable {w w' : World} {X X' S : Nat → Prop} {v : Value} {n : Nat} {cs ms : List Value}
theorem LtV.fx (h : LtV w X v n cs) (k : Fx S w w') (hX : ∀ b, b < w.heap.size → S b ∨ X' b → X b) : LtV w' X' v n cs := by
  obtain ⟨g, c, e, hc, hg, hl, hx⟩ := h
  exact ⟨g, c, e, hc, fun h2 => hg (hX g hl (.inr h2)), Nat.lt_of_lt_of_le hl k.size, fun j u hu => k.cell (hx j u hu) fun hs => hg (hX g hl (.inl hs))⟩
theorem LtV.new (h : LtV w X v n cs) (k : Below w.heap.size w w') : LtV w' X v n cs := h.fx (S := fun _ => False) (Fx.new k) fun _ _ h => h.elim False.elim id
theorem LtV.sl (h : LtV w X v n (cs ++ ms)) : SlA w v n cs := by
  obtain ⟨g, c, e, _, _, _, hx⟩ := h
  refine .inr ⟨g, 0, c, e, fun j u hu => ?_⟩
  rw [Nat.zero_add]
  exact hx j u (by rw [List.getElem?_append_left (List.getElem?_eq_some_iff.1 hu).1]; exact hu)
theorem LtV.full (h : LtV w X v n cs) : ∃ g c, v = .slice (some ⟨g, 0, none⟩) n c ∧ n + 16 ≤ c ∧ SlA w (.slice (some ⟨g, 0, none⟩) (n + 16) c) (n + 16) cs := by
  obtain ⟨g, c, e, hc, _, _, hx⟩ := h
  exact ⟨g, c, e, hc, .inr ⟨g, 0, c, rfl, fun j u hu => by rw [Nat.zero_add]; exact hx j u hu⟩⟩
theorem LtV.own {base k g c : Nat} {e : TypeId} (h : w.ownsRow base e k (.slice (some ⟨g, 0, none⟩) (n + 16) c) (n + 16) cs) (hX : ∀ b, base ≤ b → ¬ X b) (hc : n + 16 ≤ c) : LtV w X (.slice (some ⟨g, 0, none⟩) n c) n cs :=
  ⟨g, c, rfl, hc, hX g (h.lt g rfl).1, (h.lt g rfl).2, fun j u hu => by have := h.cells (g := g) rfl j u hu; rwa [Addr.add_lit, Nat.zero_add] at this⟩
end
end Go.Proofs.YtnlkmljdcmfogaaGreatDoor
namespace Go.Proofs.YtnlkmljdcmfogaaGreatDoor
open Go Go.RowKit
namespace Gw
structure Rf where
  kind : Int
  stage : Int
  name : List UInt8
structure Nd where
  base : Rf
  froms : List Rf
structure Pl where
  nodes : List Nd
  target : Int
  need : List Int
  images : List (List UInt8)
/-- the stages that a node needs. -/
def refs (n : Nd) : List Rf := n.base :: n.froms
def met (done : List Nat) (r : Rf) : Bool := !(r.kind == 1) || done.any fun k => (k : Int) == r.stage
def ready (ns : List Nd) (done : List Nat) (i : Nat) : Bool := match ns[i]? with
  | none => true
  | some n => (refs n).all (met done)
/-- what is left when some are done. -/
def rest (ns : List Nd) (need : List Int) (done : List Nat) : List Nat := (List.range ns.length).filter fun i : Nat => need.contains (i : Int) && !done.contains i
def wave (ns : List Nd) (need : List Int) (done : List Nat) : List Nat := (rest ns need done).filter fun i => ready ns done i
def left (ns : List Nd) (need : List Int) (done : List Nat) : List Nat := (rest ns need done).filter fun i => !ready ns done i
def waves (ns : List Nd) (need : List Int) : Nat → List Nat → List (List Nat)
  | 0, _ => []
  | f + 1, done => if wave ns need done = [] then [] else wave ns need done :: waves ns need f (done ++ wave ns need done)
variable {ns : List Nd} {need : List Int} {done : List Nat}
theorem rest_mem {i : Nat} : i ∈ rest ns need done ↔ i < ns.length ∧ need.contains (i : Int) = true ∧ done.contains i = false := by
  unfold rest
  rw [List.mem_filter, List.mem_range, Bool.and_eq_true, Bool.not_eq_true']
theorem wave_is : wave ns need done = (List.range ns.length).filter fun i : Nat => need.contains (i : Int) && !done.contains i && ready ns done i := by
  unfold wave rest
  rw [List.filter_filter]
  congr 1
  funext i
  rw [Bool.and_comm]
theorem rest_next : rest ns need (done ++ wave ns need done) = left ns need done := by
  unfold left rest
  rw [List.filter_filter]
  refine List.filter_congr fun i hi => ?_
  have hw : (wave ns need done).contains i = (need.contains (i : Int) && !done.contains i && ready ns done i) := by
    rw [wave_is, Bool.eq_iff_iff, List.contains_iff_mem, List.mem_filter]
    exact ⟨fun h => h.2, fun h => ⟨hi, h⟩⟩
  rw [show (done ++ wave ns need done).contains i = (done.contains i || (wave ns need done).contains i) by
    rw [Bool.eq_iff_iff, Bool.or_eq_true, List.contains_iff_mem, List.contains_iff_mem, List.contains_iff_mem, List.mem_append], hw]
  cases need.contains (i : Int) <;> cases done.contains i <;> cases ready ns done i <;> rfl
theorem left_lt (h : wave ns need done ≠ []) : (left ns need done).length < (rest ns need done).length := by
  have e : (rest ns need done).length = (wave ns need done).length + (left ns need done).length := by
    unfold wave left
    generalize rest ns need done = l
    induction l with
    | nil => rfl
    | cons a l ih =>
      rw [List.filter_cons, List.filter_cons]
      cases ready ns done a <;> simp [ih] <;> omega
  have := List.length_pos_iff.2 h
  omega
/-- fuel beyond what is left changes nothing. -/
theorem waves_fuel : ∀ (f g : Nat) (done : List Nat), (rest ns need done).length < f → (rest ns need done).length < g → waves ns need f done = waves ns need g done
  | 0, _, _, h, _ => absurd h (by omega)
  | _, 0, _, _, h => absurd h (by omega)
  | f + 1, g + 1, done, hf, hg => by
    rw [waves, waves]
    by_cases h : wave ns need done = []
    · rw [if_pos h, if_pos h]
    · rw [if_neg h, if_neg h]
      have hl := left_lt h
      rw [← rest_next] at hl
      rw [waves_fuel f g _ (by omega) (by omega)]
theorem rest_len : (rest ns need done).length ≤ ns.length := by
  have := (List.filter_sublist (l := List.range ns.length) (p := fun i : Nat => need.contains (i : Int) && !done.contains i)).length_le
  rw [List.length_range] at this
  exact this
theorem waves_go {f : Nat} (hf : (rest ns need done).length < f) (h : wave ns need done ≠ []) : waves ns need f done = wave ns need done :: waves ns need f (done ++ wave ns need done) := by
  obtain ⟨g, rfl⟩ : ∃ g, f = g + 1 := ⟨f - 1, by omega⟩
  have hl := left_lt h
  rw [← rest_next] at hl
  conv => lhs; rw [waves, if_neg h]
  rw [waves_fuel g (g + 1) _ (by omega) (by omega)]
theorem waves_stop {f : Nat} (h : wave ns need done = []) : waves ns need f done = [] := by
  cases f with
  | zero => rfl
  | succ f => rw [waves, if_pos h]
end Gw
end Go.Proofs.YtnlkmljdcmfogaaGreatDoor
namespace Go.Proofs.YtnlkmljdcmfogaaGreatDoor
open Go Go.RowKit
/-- cells of references, of numbers. -/
def rfL (r : Gw.Rf) : List Value := [.int .i64 r.kind, .int .i64 r.stage, .string (bs r.name)]
def rfC (l : List Gw.Rf) : List Value := l.flatMap rfL
def icC (l : List Int) : List Value := l.map (Value.int .i64)
/-- a node, and its slice. -/
structure NdM where
  base : Gw.Rf
  vf : Value
  froms : List Gw.Rf
def ndL (n : NdM) : List Value := [.int .i64 n.base.kind, .int .i64 n.base.stage, .string (bs n.base.name), n.vf]
def ndC (l : List NdM) : List Value := l.flatMap ndL
def NdM.nd (n : NdM) : Gw.Nd := ⟨n.base, n.froms⟩
def NdM.Ok (w : World) (n : NdM) : Prop := SlA w n.vf n.froms.length (rfC n.froms)
def NdsA (w : World) (v : Value) (l : List NdM) : Prop := SlA w v l.length (ndC l) ∧ ∀ n ∈ l, n.Ok w
theorem NdsA.new {w w' : World} {v : Value} {l : List NdM} (h : NdsA w v l) (k : Below w.heap.size w w') : NdsA w' v l := ⟨h.1.new k, fun n hn => (h.2 n hn).new k⟩
/-- a plan. -/
structure PM where
  vn : Value
  nodes : List NdM
  target : Int
  vd : Value
  need : List Int
  vi : Value
  images : List (List UInt8)
def PM.val (p : PM) : Value := .agg #[p.vn, .int .i64 p.target, p.vd, p.vi]
structure PM.Ok (w : World) (p : PM) : Prop where
  n : NdsA w p.vn p.nodes
  d : SlA w p.vd p.need.length (icC p.need)
  i : SlA w p.vi p.images.length (sc p.images)
theorem PM.Ok.new {w w' : World} {p : PM} (h : p.Ok w) (k : Below w.heap.size w w') : p.Ok w' := ⟨h.n.new k, h.d.new k, h.i.new k⟩
theorem rfC_snoc (l : List Gw.Rf) (x : Gw.Rf) : rfC (l ++ [x]) = rfC l ++ rfL x := by simp [rfC]
theorem rfC_app (a b : List Gw.Rf) : rfC (a ++ b) = rfC a ++ rfC b := by simp [rfC]
theorem icC_snoc (l : List Int) (x : Int) : icC (l ++ [x]) = icC l ++ [.int .i64 x] := by simp [icC]
theorem icC_app (a b : List Int) : icC (a ++ b) = icC a ++ icC b := by simp [icC]
theorem ndC_snoc (l : List NdM) (x : NdM) : ndC (l ++ [x]) = ndC l ++ ndL x := by simp [ndC]
theorem ndC_app (a b : List NdM) : ndC (a ++ b) = ndC a ++ ndC b := by simp [ndC]
section
variable {w : World} {v : Value}
theorem rf_at {l : List Gw.Rf} (h : SlA w v l.length (rfC l)) {i : Nat} (hi : i < l.length) : ∃ g o c, v = .slice (some ⟨g, o, none⟩) l.length c ∧ w.cell? ⟨g, o + i * 3, none⟩ = some (.int .i64 l[i].kind) ∧ w.cell? ⟨g, o + i * 3 + 1, none⟩ = some (.int .i64 l[i].stage) ∧ w.cell? ⟨g, o + i * 3 + 2, none⟩ = some (.string (bs l[i].name)) := by
  have e := fun q (hq : q < 3) => flat_at (f := rfL) (k := 3) (fun _ => rfl) l i q hi hq
  have h' := h
  rcases h' with ⟨_, h0, _⟩ | ⟨g, o, c, rfl, hc⟩
  · omega
  · exact ⟨g, o, c, rfl, hc _ _ ((e 0 (by omega)).trans rfl), by rw [Nat.add_assoc]; exact hc _ _ ((e 1 (by omega)).trans rfl), by rw [Nat.add_assoc]; exact hc _ _ ((e 2 (by omega)).trans rfl)⟩
theorem ic_at {l : List Int} (h : SlA w v l.length (icC l)) {i : Nat} (hi : i < l.length) : ∃ g o c, v = .slice (some ⟨g, o, none⟩) l.length c ∧ w.cell? ⟨g, o + i, none⟩ = some (.int .i64 l[i]) := by
  have e : (icC l)[i]? = some (.int .i64 l[i]) := by simp [icC, hi]
  exact h.get e
theorem nd_at {l : List NdM} (h : NdsA w v l) {i : Nat} (hi : i < l.length) : ∃ g o c, v = .slice (some ⟨g, o, none⟩) l.length c ∧ l[i].Ok w ∧ w.cell? ⟨g, o + i * 4, none⟩ = some (.int .i64 l[i].base.kind) ∧ w.cell? ⟨g, o + i * 4 + 1, none⟩ = some (.int .i64 l[i].base.stage) ∧ w.cell? ⟨g, o + i * 4 + 2, none⟩ = some (.string (bs l[i].base.name)) ∧ w.cell? ⟨g, o + i * 4 + 3, none⟩ = some l[i].vf := by
  have e := fun q (hq : q < 4) => flat_at (f := ndL) (k := 4) (fun _ => rfl) l i q hi hq
  have h' := h.1
  rcases h' with ⟨_, h0, _⟩ | ⟨g, o, c, rfl, hc⟩
  · omega
  · exact ⟨g, o, c, rfl, h.2 _ (List.getElem_mem hi), hc _ _ ((e 0 (by omega)).trans rfl), by rw [Nat.add_assoc]; exact hc _ _ ((e 1 (by omega)).trans rfl), by rw [Nat.add_assoc]; exact hc _ _ ((e 2 (by omega)).trans rfl), by rw [Nat.add_assoc]; exact hc _ _ ((e 3 (by omega)).trans rfl)⟩
end
end Go.Proofs.YtnlkmljdcmfogaaGreatDoor
namespace Go.Proofs.YtnlkmljdcmfogaaGreatDoor
open Go Go.RowKit
theorem strT : ElemK Tryz.prog 30 9 (.string ⟨#[]⟩) 1 16 := ⟨Tryz.underlying30, by kernel_rfl, rfl, by decide⟩
end Go.Proofs.YtnlkmljdcmfogaaGreatDoor
namespace Go.Proofs.YtnlkmljdcmfogaaGreatDoor
open Go Go.RowKit
theorem small_is (c : UInt8) : Ck.small c = (decide ((97 : Int) ≤ (c.toNat : Int)) && decide ((c.toNat : Int) ≤ 122)) := by
  unfold Ck.small
  rw [Bool.eq_iff_iff]
  simp only [Bool.and_eq_true, decide_eq_true_eq]
  omega
theorem big_is (c : UInt8) : Ck.big c = (decide ((65 : Int) ≤ (c.toNat : Int)) && decide ((c.toNat : Int) ≤ 90)) := by
  unfold Ck.big
  rw [Bool.eq_iff_iff]
  simp only [Bool.and_eq_true, decide_eq_true_eq]
  omega
theorem digit_is (c : UInt8) : Ck.digit c = (decide ((48 : Int) ≤ (c.toNat : Int)) && decide ((c.toNat : Int) ≤ 57)) := by
  unfold Ck.digit
  rw [Bool.eq_iff_iff]
  simp only [Bool.and_eq_true, decide_eq_true_eq]
  omega
set_option maxRecDepth 100000 in
theorem small18_any (c : UInt8) (w : World) {b : Bool} (H : Hid (Ck.small c = b)) : Calls Tryz.prog 217 #[.int .u8 (c.toNat : Int)] w fun e w' => e = .returned (.bool b) ∧ w = w' := by
  obtain ⟨b1, e1⟩ : ∃ b1, decide ((97 : Int) ≤ (c.toNat : Int)) = b1 := ⟨_, rfl⟩
  obtain ⟨b2, e2⟩ : ∃ b2, decide ((c.toNat : Int) ≤ 122) = b2 := ⟨_, rfl⟩
  have HB : Hid (b = (b1 && b2)) := by show _ = _; rw [← H.out, small_is, e1, e2]
  clear H
  cases b1 <;> cases b2 <;> (
    go_enter Tryz.func217, Tryz.ntmps217
    go_wp2_with fail
    go_ret
    exact ⟨by rw [HB.out]; rfl, rfl⟩)
set_option maxRecDepth 100000 in
theorem digit18_any (c : UInt8) (w : World) {b : Bool} (H : Hid (Ck.digit c = b)) : Calls Tryz.prog 218 #[.int .u8 (c.toNat : Int)] w fun e w' => e = .returned (.bool b) ∧ w = w' := by
  obtain ⟨b1, e1⟩ : ∃ b1, decide ((48 : Int) ≤ (c.toNat : Int)) = b1 := ⟨_, rfl⟩
  obtain ⟨b2, e2⟩ : ∃ b2, decide ((c.toNat : Int) ≤ 57) = b2 := ⟨_, rfl⟩
  have HB : Hid (b = (b1 && b2)) := by show _ = _; rw [← H.out, digit_is, e1, e2]
  clear H
  cases b1 <;> cases b2 <;> (
    go_enter Tryz.func218, Tryz.ntmps218
    go_wp2_with fail
    go_ret
    exact ⟨by rw [HB.out]; rfl, rfl⟩)
set_option maxRecDepth 100000 in
theorem letter18_any (c : UInt8) (w : World) {b : Bool} (H : Hid ((Ck.small c || Ck.big c) = b)) : Calls Tryz.prog 257 #[.int .u8 (c.toNat : Int)] w fun e w' => e = .returned (.bool b) ∧ w = w' := by
  obtain ⟨s, hs⟩ : ∃ s, Hid (Ck.small c = s) := ⟨_, Lib.hid rfl⟩
  obtain ⟨b1, e1⟩ : ∃ b1, decide ((65 : Int) ≤ (c.toNat : Int)) = b1 := ⟨_, rfl⟩
  obtain ⟨b2, e2⟩ : ∃ b2, decide ((c.toNat : Int) ≤ 90) = b2 := ⟨_, rfl⟩
  have HB : Hid (b = (s || (b1 && b2))) := by show _ = _; rw [← H.out, hs.out, big_is, e1, e2]
  clear H
  cases s <;> cases b1 <;> cases b2 <;> (
    go_enter Tryz.func257, Tryz.ntmps257
    go_wp2_with fail
    refine (small18_any c _ hs).mono ?_
    rintro e w1 ⟨rfl, rfl⟩
    go_wp2_with fail
    go_ret
    exact ⟨by rw [HB.out]; rfl, rfl⟩)
namespace Ck
/-- a tag's byte; the first one has no dot and no dash. -/
def tg (z : Bool) (c : UInt8) : Bool := small c || big c || digit c || c == 95 || (!z && (c == 46 || c == 45))
def goT : Nat → List UInt8 → Bool
  | _, [] => true
  | i, c :: r => tg (i == 0) c && goT (i + 1) r
theorem goT_all : ∀ (r : List UInt8) (i : Nat), goT (i + 1) r = r.all fun c => small c || big c || digit c || c == 95 || c == 46 || c == 45
  | [], _ => rfl
  | c :: r, i => by
    have hz : (i + 1 == 0) = false := rfl
    rw [goT, goT_all r (i + 1), List.all_cons, hz]
    unfold tg
    cases small c <;> cases big c <;> cases digit c <;> cases (c == 95) <;> cases (c == 46) <;> cases (c == 45) <;> rfl
theorem tag_go (s : List UInt8) : tagR s = (goT 0 s && !s.isEmpty) := by
  cases s with
  | nil => rfl
  | cons c r =>
    rw [goT, goT_all]
    show ((small c || big c || digit c || c == 95) && _) = _
    unfold tg
    cases small c <;> cases big c <;> cases digit c <;> cases (c == 95) <;> simp
end Ck
end Go.Proofs.YtnlkmljdcmfogaaGreatDoor
namespace Go.Proofs.YtnlkmljdcmfogaaGreatDoor
open Go Go.RowKit
theorem ne_int (c k : UInt8) : ((c.toNat : Int) != (k.toNat : Int)) = !(c == k) := by
  rw [bne]
  congr 1
  rw [Bool.eq_iff_iff, beq_iff_eq, beq_iff_eq]
  constructor
  · intro h; exact UInt8.toNat_inj.1 (by omega)
  · rintro rfl; rfl
theorem bs_list (l : List UInt8) : (bs l).toList = l := by rw [ByteArray.toList_eq]; rfl
set_option maxRecDepth 100000 in
set_option maxHeartbeats 1000000 in
theorem tag18_any (s : List UInt8) (hs : s.length ≤ 2000000) (w : World) {b : Bool} (H : Hid (Ck.tagR s = b)) : Calls Tryz.prog 226 #[.string (bs s)] w fun e w' => e = .returned (.bool b) ∧ w = w' := by
  have hz := bs_size s
  have HZ := Lib.hid hz
  have hs2 : (bs s).size ≤ 2000000 := by omega
  obtain ⟨n0, en⟩ : ∃ n0, (bs s).toList.isEmpty = n0 := ⟨_, rfl⟩
  have H0 : Hid ((Ck.goT 0 (s.drop 0) && !n0) = b) := by show _ = _; rw [List.drop_zero, ← en, bs_list, ← H.out, Ck.tag_go]
  clear hz H
  go_enter Tryz.func226, Tryz.ntmps226
  go_wp2_with fail
  go_loopw [3] (fun t3 wr => ∃ i : Nat, i ≤ (bs s).size ∧ t3 = .int .i64 (i : Int) ∧ Hid ((Ck.goT i (s.drop i) && !n0) = b) ∧ w = wr) (fun t3 _ => (bs s).size - (intOf t3).toNat)
  case atStart => exact ⟨0, by omega, rfl, H0, by first | rfl | trivial⟩
  case round =>
    clear H0
    obtain ⟨i, hi, rfl, HR, rfl⟩ := hrel
    have j0 : (0 : Int) ≤ (i : Int) := by omega
    rcases Nat.lt_or_ge i (bs s).size with hin | hin
    · have i0 : decide ((i : Int) < ((bs s).size : Int)) = true := by rw [decide_eq_true_eq]; omega
      have i1 : (i : Int) < ((bs s).size : Int) := by omega
      have hil : i < s.length := by rw [← HZ.out]; exact hin
      have hR := HR.out
      rw [List.drop_eq_getElem_cons hil, show s[i] = (bs s)[i]'hin from rfl, Ck.goT] at hR
      obtain ⟨c, hc⟩ : ∃ c, (bs s)[i]'hin = c := ⟨_, rfl⟩
      rw [hc] at hR
      have hby : c.toNat < 256 := UInt8.toNat_lt _
      obtain ⟨l, hl⟩ : ∃ l, Hid ((Ck.small c || Ck.big c) = l) := ⟨_, Lib.hid rfl⟩
      obtain ⟨d, hd⟩ : ∃ d, Hid (Ck.digit c = d) := ⟨_, Lib.hid rfl⟩
      obtain ⟨x, e1⟩ : ∃ x, ((c.toNat : Int) != 95) = x := ⟨_, rfl⟩
      obtain ⟨m, e2⟩ : ∃ m, ((c.toNat : Int) != 46) = m := ⟨_, rfl⟩
      obtain ⟨n, e3⟩ : ∃ n, ((c.toNat : Int) != 45) = n := ⟨_, rfl⟩
      obtain ⟨z, e4⟩ : ∃ z, (i == 0) = z := ⟨_, rfl⟩
      have e5 : ((i : Int) == 0) = z := by rw [← e4, Bool.eq_iff_iff, beq_iff_eq, beq_iff_eq]; omega
      obtain ⟨q, hq⟩ : ∃ q, (!l && !d && x && (z || (m && n))) = q := ⟨_, rfl⟩
      have hT : Ck.tg (i == 0) c = !q := by
        have f1 : (c == 95) = !x := by rw [← e1, show (95 : Int) = (((95 : UInt8).toNat : Nat) : Int) from rfl, ne_int, Bool.not_not]
        have f2 : (c == 46) = !m := by rw [← e2, show (46 : Int) = (((46 : UInt8).toNat : Nat) : Int) from rfl, ne_int, Bool.not_not]
        have f3 : (c == 45) = !n := by rw [← e3, show (45 : Int) = (((45 : UInt8).toNat : Nat) : Int) from rfl, ne_int, Bool.not_not]
        unfold Ck.tg
        rw [hl.out, hd.out, f1, f2, f3, e4, ← hq]
        cases l <;> cases d <;> cases x <;> cases m <;> cases n <;> cases z <;> rfl
      rw [hT] at hR
      have HQ := Lib.hid hq
      have HN := Lib.hid hR
      clear hR HR hq hil hT
      go_upto_region 4 with fail
      go_cut [43] (fun s43 wx => s43 = .bool q ∧ w = wx)
      case first =>
        clear HN
        cases l with
        | true =>
          go_wp2_with fail
          refine (letter18_any c _ hl).mono ?_
          rintro r w1 ⟨rfl, rfl⟩
          go_wp2_with fail
          go_meet
          exact ⟨by rw [← HQ.out]; rfl, by first | rfl | trivial⟩
        | false =>
          cases d with
          | true =>
            go_wp2_with fail
            refine (letter18_any c _ hl).mono ?_
            rintro r w1 ⟨rfl, rfl⟩
            go_wp2_with fail
            refine (digit18_any c _ hd).mono ?_
            rintro r w1 ⟨rfl, rfl⟩
            go_wp2_with fail
            go_meet
            exact ⟨by rw [← HQ.out]; rfl, by first | rfl | trivial⟩
          | false =>
            cases x <;> cases z <;> cases m <;> cases n <;> (
              go_wp2_with fail
              refine (letter18_any c _ hl).mono ?_
              rintro r w1 ⟨rfl, rfl⟩
              go_wp2_with fail
              refine (digit18_any c _ hd).mono ?_
              rintro r w1 ⟨rfl, rfl⟩
              go_wp2_with fail
              go_meet
              exact ⟨by rw [← HQ.out]; rfl, by first | rfl | trivial⟩)
      case rest =>
        obtain ⟨rfl, rfl⟩ := hcut
        clear e1 e2 e3 e4 e5 HQ hl hd
        have hN := HN.out
        cases q with
        | true =>
          have HF : Hid (b = false) := by show _ = _; rw [← hN]; rfl
          clear hN HN
          go_wp2_with fail
          go_ret
          exact ⟨by rw [HF.out]; rfl, by first | rfl | trivial⟩
        | false =>
          have HF : Hid ((Ck.goT (i + 1) (s.drop (i + 1)) && !n0) = b) := by show _ = _; rw [← hN]; rfl
          clear hN HN
          go_wp2_with fail
          go_roundw
          case rel => exact ⟨i + 1, by omega, by go_num, HF, by first | rfl | trivial⟩
          case measure => simp [intOf]; omega
    · have i0 : decide ((i : Int) < ((bs s).size : Int)) = false := by rw [decide_eq_false_iff_not]; omega
      have hil : s.length ≤ i := by rw [← HZ.out]; exact hin
      have HF : Hid (b = !n0) := by show _ = _; rw [← HR.out, List.drop_eq_nil_of_le hil]; rfl
      clear HR hil
      cases n0 <;> (
        go_wp2_with fail
        go_ret
        exact ⟨by rw [HF.out]; rfl, by first | rfl | trivial⟩)
end Go.Proofs.YtnlkmljdcmfogaaGreatDoor
