/- strataref05's Octal and Filled once more, their answers under names. -/
import Derived.Test.YtfhfahlocpmdkaaDoorUsE
import Derived.Test.YtfhfahlocpmdkaaDoorUsR
import Derived.Test.YtfhfahlocpmdkaaDoorUsS
namespace Go.Proofs.YtfhfahlocpmdkaaDoor
open Go.RowKit

def oS (d x : Nat) : ByteArray := bs (Us.oct d x)
def fS (n : Nat) (s : ByteArray) : ByteArray := bs (Us.fill n (bl s))
theorem oS_size (d x : Nat) : (oS d x).size = d := by rw [oS, bs_size, Us.oct_length]
theorem fS_size (n : Nat) (s : ByteArray) : (fS n s).size = n := by rw [fS, bs_size, Us.fill_length]
theorem octal_o (d : Nat) (di : Int) (hd : di = (d : Int)) (hd2 : d ≤ 100) (x : Int) (w : World) (h0 : 0 ≤ x) (hx : x ≤ 8589934591) :
    Calls Tryd.prog 38 #[.int .i64 x, .int .i64 di] w fun e w' => e = .returned (.string (oS d x.toNat)) ∧ Below w.heap.size w w' := by
  subst hd
  have hx0 : ((x.toNat : Nat) : Int) = x := Int.toNat_of_nonneg h0
  have := octal_any d x.toNat w hd2 (by omega)
  rw [hx0] at this
  exact this
theorem octal_7 (x : Int) (w : World) (h0 : 0 ≤ x) (hx : x ≤ 8589934591) : Calls Tryd.prog 38 #[.int .i64 x, .int .i64 7] w fun e w' => e = .returned (.string (oS 7 x.toNat)) ∧ Below w.heap.size w w' := octal_o 7 7 rfl (by decide) x w h0 hx
theorem octal_11 (x : Int) (w : World) (h0 : 0 ≤ x) (hx : x ≤ 8589934591) : Calls Tryd.prog 38 #[.int .i64 x, .int .i64 11] w fun e w' => e = .returned (.string (oS 11 x.toNat)) ∧ Below w.heap.size w w' := octal_o 11 11 rfl (by decide) x w h0 hx
theorem octal_6 (x : Int) (w : World) (h0 : 0 ≤ x) (hx : x ≤ 8589934591) : Calls Tryd.prog 38 #[.int .i64 x, .int .i64 6] w fun e w' => e = .returned (.string (oS 6 x.toNat)) ∧ Below w.heap.size w w' := octal_o 6 6 rfl (by decide) x w h0 hx
theorem filled_o (m : Nat) (mi : Int) (hm : mi = (m : Int)) (hm2 : m ≤ 1000) (s : ByteArray) (w : World) :
    Calls Tryd.prog 37 #[.string s, .int .i64 mi] w fun e w' => e = .returned (.string (fS m s)) ∧ Below w.heap.size w w' := by
  subst hm
  exact filled_any s m w hm2
theorem filled_100 (s : ByteArray) (w : World) : Calls Tryd.prog 37 #[.string s, .int .i64 100] w fun e w' => e = .returned (.string (fS 100 s)) ∧ Below w.heap.size w w' := filled_o 100 100 rfl (by decide) s w
theorem filled_32 (s : ByteArray) (w : World) : Calls Tryd.prog 37 #[.string s, .int .i64 32] w fun e w' => e = .returned (.string (fS 32 s)) ∧ Below w.heap.size w w' := filled_o 32 32 rfl (by decide) s w
theorem filled_155 (s : ByteArray) (w : World) : Calls Tryd.prog 37 #[.string s, .int .i64 155] w fun e w' => e = .returned (.string (fS 155 s)) ∧ Below w.heap.size w w' := filled_o 155 155 rfl (by decide) s w
theorem filled_12 (s : ByteArray) (w : World) : Calls Tryd.prog 37 #[.string s, .int .i64 12] w fun e w' => e = .returned (.string (fS 12 s)) ∧ Below w.heap.size w w' := filled_o 12 12 rfl (by decide) s w
/-- what is kept over a call that makes memory. -/
theorem carry {w0 w w1 : World} {g : Nat} {h : Us.Hd} (hH : HC w g h) (hB : Below g w0 w) (hb : Below w.heap.size w w1) : HC w1 g h ∧ Below g w0 w1 :=
  ⟨hH.below hb hH.blk.lt, hB.trans (hb.mono (Nat.le_of_lt hH.blk.lt))⟩
theorem carry_drew {w0 w w1 : World} {g : Nat} {h : Us.Hd} (hH : HC w g h) (hB : Below g w0 w) (hb : Below w.drew.heap.size w.drew w1) : HC w1 g h ∧ Below g w0 w1 :=
  carry (w := w.drew) ⟨by have := hH.blk; exact this⟩ hB.drew hb
theorem carry3 {w0 w w1 : World} {g : Nat} {h : Us.Hd} (hb : Below w.heap.size w w1) (hH : HC w g h) (hB : Below g w0 w) : HC w1 g h ∧ Below g w0 w1 := carry hH hB hb
theorem carry_alloc {w0 w : World} {g : Nat} {h : Us.Hd} (hH : HC w g h) (hB : Below g w0 w) (o : Obj) : HC (w.alloc o) g h ∧ Below g w0 (w.alloc o) :=
  carry hH hB ((Below.refl _ _).alloc (Nat.le_refl _) _)
/-- one byte, as a text. -/
def tS (c : UInt8) : ByteArray := bs [c]
theorem tS_size (c : UInt8) : (tS c).size = 1 := rfl
/-- block g's first cell is a byte. -/
def One (w : World) (g : Nat) (c : UInt8) : Prop := w.cell? ⟨g, 0, none⟩ = some (.int .u8 (c.toNat : Int)) ∧ g < w.heap.size
theorem One.new {W w : World} {c : UInt8} {T : TypeId} (hb : Below (W.alloc (.cells #[.int .u8 (c.toNat : Int)] T)).heap.size (W.alloc (.cells #[.int .u8 (c.toNat : Int)] T)) w) : One w W.heap.size c :=
  ⟨(hb.cell (p := ⟨W.heap.size, 0, none⟩) (by simp)).trans (by simp), by have := hb.size; simp at this; omega⟩
theorem One.keep {W w : World} {g : Nat} {c : UInt8} (hb : Below W.heap.size W w) (h : One W g c) : One w g c :=
  ⟨(hb.cell (p := ⟨g, 0, none⟩) h.2).trans h.1, by have := hb.size; have := h.2; omega⟩
theorem One.conv {w : World} {g : Nat} {c : UInt8} (h : One w g c) : (convert 42 9 (.slice (some ⟨g, 0, none⟩) 1 1)).run Tryd.prog w = .ok (.string (tS c)) w := by
  have hx := run_convert_bytes_arg (P := Tryd.prog) w 42 5 Tryd.underlying42 Tryd.underlying5 g 0 1 1 [(c.toNat : Int)] rfl (fun i hi => by
    obtain rfl : i = 0 := by omega
    exact h.1) 9 Tryd.underlying9
  rw [hx]
  simp [strOfNums, bs, tS]
theorem conv_now (W : World) (c : UInt8) (T : TypeId) : (convert 42 9 (.slice (some ⟨W.heap.size, 0, none⟩) 1 1)).run Tryd.prog (W.alloc (.cells #[.int .u8 (c.toNat : Int)] T)) = .ok (.string (tS c)) (W.alloc (.cells #[.int .u8 (c.toNat : Int)] T)) :=
  One.conv (One.new (Below.refl _ _))
theorem conv_drew (W : World) (c : UInt8) (T : TypeId) : (convert 42 9 (.slice (some ⟨W.heap.size, 0, none⟩) 1 1)).run Tryd.prog (W.alloc (.cells #[.int .u8 (c.toNat : Int)] T)).drew = .ok (.string (tS c)) (W.alloc (.cells #[.int .u8 (c.toNat : Int)] T)).drew :=
  One.conv (One.keep (W := W.alloc (.cells #[.int .u8 (c.toNat : Int)] T)) (Below.refl _ _).drew (One.new (Below.refl _ _)))
theorem One.newD {W w : World} {c : UInt8} {T : TypeId} (hb : Below (W.alloc (.cells #[.int .u8 (c.toNat : Int)] T)).drew.heap.size (W.alloc (.cells #[.int .u8 (c.toNat : Int)] T)).drew w) : One w W.heap.size c :=
  One.keep hb (One.keep (W := W.alloc (.cells #[.int .u8 (c.toNat : Int)] T)) (Below.refl _ _).drew (One.new (Below.refl _ _)))
theorem ahead_o (h : Us.Hd) (name : List UInt8) :
    fS 100 (bs name) ++ oS 7 h.mode.toNat ++ ⟨#[0]⟩ ++ oS 7 h.uid.toNat ++ ⟨#[0]⟩ ++ oS 7 h.gid.toNat ++ ⟨#[0]⟩ ++ oS 11 h.size.toNat ++ ⟨#[0]⟩ ++ oS 11 h.time.toNat ++ ⟨#[0]⟩ = bs (Us.ahead h name) := by
  have z : (⟨#[0]⟩ : ByteArray) = bs [0] := rfl
  rw [z]
  simp only [fS, oS, bl_bs, bs_append, Us.ahead, List.append_assoc]
theorem behind_o (h : Us.Hd) (pre : List UInt8) :
    tS h.type ++ fS 100 (bs h.link) ++ ⟨#[117, 115, 116, 97, 114, 0, 48, 48]⟩ ++ fS 32 (bs h.user) ++ fS 32 (bs h.group) ++ oS 7 h.major.toNat ++ ⟨#[0]⟩ ++ oS 7 h.minor.toNat ++ ⟨#[0]⟩ ++ fS 155 (bs pre) ++ fS 12 ⟨#[]⟩ = bs (Us.behind h pre) := by
  have z : (⟨#[0]⟩ : ByteArray) = bs [0] := rfl
  have z1 : (⟨#[117, 115, 116, 97, 114, 0, 48, 48]⟩ : ByteArray) = bs Us.magic := rfl
  have z2 : fS 12 ⟨#[]⟩ = bs (Us.zs 12) := rfl
  rw [z, z1, z2]
  simp only [fS, oS, tS, bl_bs, bs_append, Us.behind, List.append_assoc]
theorem ahead_sz (h : Us.Hd) (name : List UInt8) : (bs (Us.ahead h name)).size = 148 := by rw [bs_size, Us.ahead_length]
theorem behind_sz (h : Us.Hd) (pre : List UInt8) : (bs (Us.behind h pre)).size = 356 := by rw [bs_size, Us.behind_length]
theorem named {o X : ByteArray} {n : Nat} (e : o = X) (hn : X.size = n) : o.size = n ∧ Hid (o = X) := ⟨by rw [e]; exact hn, e⟩
end Go.Proofs.YtfhfahlocpmdkaaDoor
