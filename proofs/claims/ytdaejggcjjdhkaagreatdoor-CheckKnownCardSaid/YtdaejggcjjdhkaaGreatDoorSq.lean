/- What the texts say shortly. -/
import Derived.Lib.Hide
namespace Go.Proofs.YtdaejggcjjdhkaaGreatDoor
open Go Go.RowKit
abbrev Ja:=@Below.refl
abbrev Jb:=@World.size_alloc
abbrev Jc:=@Option.some.inj
abbrev Jd:=@Nat.le_refl
abbrev Je:=@World.block_lt_of_cell?
abbrev Jf:=@List.length_append
abbrev Jg:=@Nat.le_trans
abbrev Jh:=@Nat.lt_or_ge
abbrev Ji:=@List.length_cons
abbrev Jj:=@decide_eq_true_eq
abbrev Jk:=@List.getElem?_eq_getElem
abbrev Jl:=@List.getElem_mem
abbrev Jm:=@UInt8.toNat_lt
abbrev Jn:=@List.length_drop
abbrev Jo:=@List.length_map
abbrev Jp:=@List.length_nil
abbrev Jq:=@Nat.zero_add
abbrev Jr:=@beq_eq_false_iff_ne
abbrev Js:=@List.drop_eq_getElem_cons
abbrev Jt:=@List.drop_eq_nil_of_le
abbrev Ju:=@Nat.eq_zero_or_pos
abbrev Jv:=@List.mem_singleton
abbrev Jw:=@List.drop_zero
abbrev Jx:=@beq_iff_eq
abbrev Jy:=@Bool.and_eq_true
abbrev Jz:=@Bool.eq_iff_iff
abbrev Ka:=@decide_eq_false_iff_not
abbrev Kb:=@List.getElem?_append_left
abbrev Kc:=@List.getElem?_append_right
abbrev Ke:=@List.flatMap_cons
abbrev Kf:=@List.flatMap_append
abbrev Kg:=@List.mem_cons_of_mem
abbrev Kh:=@List.mem_cons_self
abbrev Ki:=@List.eq_nil_of_length_eq_zero
abbrev Kj:=@World.ownsRow_nil
abbrev Kk:=@Nat.le_of_ble_eq_true
abbrev Kl:=@List.not_mem_nil
abbrev Km:=@List.mem_append
abbrev Kn:=@List.mem_cons
abbrev Ko:=@Nat.succ_le_succ
abbrev Kp:=@ByteArray.size_append
abbrev Kq:=@Nat.mul_one
abbrev Kr:=@Nat.add_comm
abbrev Ks:=@List.take_length
abbrev Kt:=@List.length_take
abbrev Ku:=@List.getElem?_cons_zero
abbrev Kv:=@List.append_assoc
abbrev Kw:=@List.append_nil
abbrev Kx:=@List.nil_append
theorem hY {p : Prop} (h : p) : Hid p := Lib.hid h
theorem dT {p : Prop} [Decidable p] (h : p) : decide p = true := decide_eq_true h
theorem dF {p : Prop} [Decidable p] (h : ¬ p) : decide p = false := decide_eq_false h
theorem bT {α : Type} [BEq α] [LawfulBEq α] {a b : α} (h : a = b) : (a == b) = true := beq_iff_eq.2 h
theorem bF {α : Type} [BEq α] [LawfulBEq α] {a b : α} (h : a ≠ b) : (a == b) = false := beq_eq_false_iff_ne.2 h
end Go.Proofs.YtdaejggcjjdhkaaGreatDoor
