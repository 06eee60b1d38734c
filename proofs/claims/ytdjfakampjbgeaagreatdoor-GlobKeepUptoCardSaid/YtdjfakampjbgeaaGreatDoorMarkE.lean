/- Marks of entries (stratakit), entries in variables. -/
import Derived.Test.YtdjfakampjbgeaaGreatDoorBlk
import Derived.Test.YtdjfakampjbgeaaGreatDoorMI
import Derived.Deep.MidRow
import Derived.Laws.CopyOwn
namespace Go.Proofs.YtdjfakampjbgeaaGreatDoor
open Go Go.RowKit

/-- the mark of a place. -/
def markS (k i : Int) : ByteArray := strOfNums [35, k % 256, k / 256 % 256, i % 256, i / 256 % 256]
theorem cells_nums (w : World) (e : TypeId) (xs : List Int) : ∀ i, i < xs.length → (w.alloc (.cells (xs.map (Value.int .u8)).toArray e)).cell? ⟨w.heap.size, 0 + i, none⟩ = some (.int .u8 (xs.getD i 0)) := by
  intro i hi
  have := news_alloc w (xs.map (Value.int .u8)) e i (.int .u8 (xs.getD i 0)) (by simp [List.getD, hi])
  rwa [Addr.add_lit] at this
set_option maxRecDepth 100000 in
theorem markText_any (k i : Int) (w : World) :
    Calls Tryz.prog 58 #[.int .i64 k, .int .i64 i] w fun e w' => e = .returned (.string (markS k i)) ∧ Below w.heap.size w w' := by
  have hcv := run_convert_bytes_arg (P := Tryz.prog) (w.alloc (.cells #[.int .u8 35, .int .u8 (k % 256), .int .u8 (k / 256 % 256), .int .u8 (i % 256), .int .u8 (i / 256 % 256)] 5)) 74 5 Tryz.underlying74 Tryz.underlying5 w.heap.size 0 5 5 [35, k % 256, k / 256 % 256, i % 256, i / 256 % 256] rfl (cells_nums w _ [35, k % 256, k / 256 % 256, i % 256, i / 256 % 256]) 9 Tryz.underlying9
  go_enter Tryz.func58, Tryz.ntmps58
  go_wp2_with fail
  go_ret
  exact ⟨rfl, (Below.refl _ _).alloc (Nat.le_refl _) _⟩

theorem enL_arr (x : En) : (enL x).toArray = enC x := rfl
theorem enC_one (x : En) : (enC x).all (·.oneCell') = true := by simp [enC, Value.oneCell']
theorem en_size : (Tryz.prog.info? 38).map (·.size) = some 5 := by kernel_rfl
theorem wpList_store_en {W : World} {ops : Array Oper} {rest : List Oper} {o : Oper} {a : Act} {Q : Exit → Act → World → Prop} (hgd : o.guard = none) (x y : Operand) (ho : o.op = .store 38 x y)
    (g : Nat) (h : En) (hx : a.eval x = .pointer (some ⟨g, 0, none⟩)) (hy : a.eval y = .agg (enC h)) (old : Array Value) (hg : Blk W g 38 old) (hs : old.size = 5)
    (hk : ∀ w', Blk w' g 38 (enC h) → Below g W w' → w'.heap.size = W.heap.size → wpList Tryz.prog ops Q rest (a.put o.dst undef) w') : wpList Tryz.prog ops Q (o :: rest) a W :=
  wpList_store_row hgd 38 x y ho g (enC h) hx hy _ old hg en_size hs (enC_one h) (hk _ (setRow_heap W g _ _ _ _ hg) (below_setRow (Below.refl g W) (Nat.le_refl g) _) (setRow_size _ _ _))
theorem load_en {w : World} {g : Nat} {x : En} (hg : Blk w g 38 (enC x)) : (loadVar 38 ⟨g, 0, none⟩).run Tryz.prog w = .ok (.agg (enC x)) w :=
  run_loadVar_row w g _ _ (enC x) (0, 0) _ hg Tryz.underlying38 rfl en_size
theorem results_en {fn : Func} (hf : fn.results = #[.cell 4 38]) {tmps : Array Value} {w : World} {g : Nat} {x : En} (hp : tmps.getD 4 undef = .pointer (some ⟨g, 0, none⟩)) (hg : Blk w g 38 (enC x)) :
    (results fn tmps).run Tryz.prog w = .ok (.agg (enC x)) w := by
  have hp' : tmps[4]?.getD undef = .pointer (some ⟨g, 0, none⟩) := by simpa using hp
  simp [results, hf, hp', asAddr, load_en hg]
def mkE (k i : Int) : En := ⟨bl (markS k i), 0, -7 - k, [], []⟩
set_option maxRecDepth 100000 in
theorem markEntries_any (k i : Int) (h0 : 0 ≤ k) (h1 : k ≤ 1000000) (w : World) :
    Calls Tryz.prog 33 #[.int .i64 k, .int .i64 i] w fun e w' => e = .returned (.agg (enC (mkE k i))) ∧ Below w.heap.size w w' := by
  have hw : IntKind.i64.wrap (-7 - k) = -7 - k := by
    unfold IntKind.wrap
    simp [IntKind.bits, IntKind.signed]
    omega
  go_enter Tryz.func33, Tryz.ntmps33
  go_wp2_with (first | (go_at_call 58; refine (markText_any _ _ _).mono ?_; rintro e w1 ⟨rfl, hb1⟩; have hg1 := (Blk.new w 38 #[.string ⟨#[]⟩, .int .i64 0, .int .i64 0, .string ⟨#[]⟩, .string ⟨#[]⟩]).below hb1 (Blk.new w _ _).lt) | (refine wpList_store_en rfl _ _ rfl w.heap.size (mkE k i) rfl (by rw [mkE, enC, bs_bl]; rfl) _ hg1 rfl ?_; intro w2 hB2 hb2 hz2))
  have hBf : Below w.heap.size w w2 := (((Below.refl w.heap.size w).alloc (Nat.le_refl _) _).trans (hb1.mono (by simp))).trans hb2
  refine bodyPost_ret (v := .agg (enC (mkE k i))) (results_en rfl rfl hB2) rfl ?_
  exact ⟨rfl, hBf⟩
end Go.Proofs.YtdjfakampjbgeaaGreatDoor
