/- Elements of slices of steps and of stages, whole. -/
import Derived.Test.YtdaejggcjjdhkaaGreatDoorMkB
import Derived.Test.YtdaejggcjjdhkaaGreatDoorCkSl
namespace Go.Proofs.YtdaejggcjjdhkaaGreatDoor
open Go Go.RowKit
namespace Ck
/-- a step that is within the bounds of the walks. -/
def St.Small (s : St) : Prop := s.words.length + s.exec.length + s.pairs.length + s.docs.length ≤ 1050000 ∧ ∀ t ∈ textsL s, t.length ≤ 1050000
def Sg.Small (g : Sg) : Prop := g.base.length ≤ 1050000 ∧ g.name.length ≤ 1050000 ∧ ∀ s ∈ g.steps, s.Small
def Fl.Small (f : Fl) : Prop := (∀ s ∈ f.args, s.Small) ∧ (∀ g ∈ f.stages, g.Small) ∧ f.stages.length + countL f ≤ 1050000
end Ck
/-- the values of a region's operations, by their numbers. -/
def VL (l : List Value) (i : Nat) (u : Value) (_ : World) : Prop := l[i]? = some u
theorem sm_full {w : World} {v : Value} {l : List SM} (h : StsA w v l) {i : Nat} (hi : i < l.length) : ∃ (g o c : Nat) (s : Ck.St) (Ap Aw Ad Ae : Option Addr) (kp kw kd ke : Nat), v = .slice (some ⟨g, o, none⟩) l.length c ∧ l[i] = ⟨s, .slice Ap s.pairs.length kp, .slice Aw s.words.length kw, .slice Ad s.docs.length kd, .slice Ae s.exec.length ke⟩ ∧
    w.cell? ⟨g, o + i * 10, none⟩ = some (.int .i64 s.op) ∧ w.cell? ⟨g, o + i * 10 + 1, none⟩ = some (.int .i64 s.line) ∧ w.cell? ⟨g, o + i * 10 + 2, none⟩ = some (.string (bs s.from_)) ∧ w.cell? ⟨g, o + i * 10 + 3, none⟩ = some (.string (bs s.mode)) ∧ w.cell? ⟨g, o + i * 10 + 4, none⟩ = some (.bool s.force) ∧
    w.cell? ⟨g, o + i * 10 + 5, none⟩ = some (.slice Ap s.pairs.length kp) ∧ w.cell? ⟨g, o + i * 10 + 6, none⟩ = some (.bool s.bare) ∧ w.cell? ⟨g, o + i * 10 + 7, none⟩ = some (.slice Aw s.words.length kw) ∧ w.cell? ⟨g, o + i * 10 + 8, none⟩ = some (.slice Ad s.docs.length kd) ∧ w.cell? ⟨g, o + i * 10 + 9, none⟩ = some (.slice Ae s.exec.length ke) := by
  have hm := h.2 l[i] (List.getElem_mem hi)
  obtain ⟨g, o, c, hv, hc⟩ := sm_at h.1 hi
  obtain ⟨Ap, kp, e1⟩ := hm.cp.form
  obtain ⟨Aw, kw, e2⟩ := hm.cw.form
  obtain ⟨Ad, kd, e3⟩ := hm.cd.form
  obtain ⟨Ae, ke, e4⟩ := hm.ce.form
  clear hm
  generalize l[i] = m at hc e1 e2 e3 e4 ⊢
  obtain ⟨s, vp, vw, vd, ve⟩ := m
  dsimp only at e1 e2 e3 e4
  subst e1 e2 e3 e4
  exact ⟨g, o, c, s, Ap, Aw, Ad, Ae, kp, kw, kd, ke, hv, rfl, hc 0 (by omega), hc 1 (by omega), hc 2 (by omega), hc 3 (by omega), hc 4 (by omega), hc 5 (by omega), hc 6 (by omega), hc 7 (by omega), hc 8 (by omega), hc 9 (by omega)⟩
theorem gm_full {w : World} {v : Value} {l : List GM} (h : GsA w v l) {i : Nat} (hi : i < l.length) : ∃ (g o c : Nat) (G : GM) (A : Option Addr) (k : Nat), v = .slice (some ⟨g, o, none⟩) l.length c ∧ l[i] = G ∧ G.vs = .slice A G.ms.length k ∧ StsA w G.vs G.ms ∧
    w.cell? ⟨g, o + i * 4, none⟩ = some (.int .i64 G.line) ∧ w.cell? ⟨g, o + i * 4 + 1, none⟩ = some (.string (bs G.base)) ∧ w.cell? ⟨g, o + i * 4 + 2, none⟩ = some (.string (bs G.name)) ∧ w.cell? ⟨g, o + i * 4 + 3, none⟩ = some (.slice A G.ms.length k) := by
  have hm := h.2 l[i] (List.getElem_mem hi)
  obtain ⟨g, o, c, hv, hc⟩ := gm_at h.1 hi
  obtain ⟨A, k, e⟩ := hm.1.form
  exact ⟨g, o, c, l[i], A, k, hv, rfl, e, hm, hc 0 (by omega), hc 1 (by omega), hc 2 (by omega), by rw [hc 3 (by omega), ← e]; rfl⟩
theorem drop_map {α β : Type} {f : α → β} {l : List α} {i : Nat} (hi : i < l.length) : (l.map f).drop i = f l[i] :: (l.map f).drop (i + 1) := by
  rw [List.drop_eq_getElem_cons (by simpa using hi), List.getElem_map]
theorem take_name {l : List GM} {i : Nat} (hi : i < l.length) : (l.map GM.name).take (i + 1) = (l.map GM.name).take i ++ [l[i].name] := by
  rw [List.take_succ_eq_append_getElem (by simpa using hi), List.getElem_map]
theorem sum_take (l : List GM) (i : Nat) (hi : i < l.length) : ((l.take (i + 1)).map fun g => g.ms.length).sum = ((l.take i).map fun g => g.ms.length).sum + l[i].ms.length := by
  rw [List.take_add_one, List.getElem?_eq_getElem hi, List.map_append, List.sum_append]
  simp
theorem sum_take_le : ∀ (l : List GM) (i : Nat), ((l.take i).map fun g => g.ms.length).sum ≤ (l.map fun g => g.ms.length).sum
  | [], _ => by simp
  | _ :: _, 0 => by simp
  | g :: l, i + 1 => by
    have := sum_take_le l i
    simp only [List.take_succ_cons, List.map_cons, List.sum_cons]
    omega
theorem count_fl (f : FM) : Ck.countL f.fl = f.args.length + (f.stages.map fun g => g.ms.length).sum := by
  simp only [Ck.countL, FM.fl, List.length_map, List.map_map]
  congr 2
  exact List.map_congr_left fun g _ => by simp [GM.sg]
end Go.Proofs.YtdaejggcjjdhkaaGreatDoor
