/- Patterns, plain: what a piece is read as, and what it takes. -/
import Derived.Test.YtdjfakampjbgeaaDoorGbP
import Derived.Test.YtdjfakampjbgeaaDoorGbMm
namespace Go.Proofs.YtdjfakampjbgeaaDoor.Gl

/-- the byte with which a text begins, and what stands behind it. -/
def oneL : List UInt8 → Option (UInt8 × List UInt8)
  | [] => none
  | c :: r => if c = 92 then (match r with | [] => none | d :: r' => some (d, r')) else some (c, r)
/-- a mark of a piece. -/
structure Mk where
  any : Bool
  neg : Bool
  fr : List UInt8
  to : List UInt8
  deriving DecidableEq
/-- a set's ranges, from behind its '[' (and '!') on, to behind its ']'. -/
def setL : Nat → Bool → List UInt8 → List UInt8 → List UInt8 → Option ((List UInt8 × List UInt8) × List UInt8)
  | 0, _, _, _, _ => none
  | n + 1, first, l, fs, ts =>
    match l with
    | [] => none
    | x :: r0 =>
      if x = 93 ∧ first = false then some ((fs, ts), r0) else
      match oneL (x :: r0) with
      | none => none
      | some (c, r) =>
        match r with
        | y :: z :: r2 =>
          if y = 45 ∧ z ≠ 93 then
            match oneL (z :: r2) with
            | none => none
            | some (d, r3) => if d < c then none else setL n false r3 (fs ++ [c]) (ts ++ [d])
          else setL n false r (fs ++ [c]) (ts ++ [c])
        | _ => setL n false r (fs ++ [c]) (ts ++ [c])
/-- a set, from behind its '[' on. -/
def setOpen (r : List UInt8) : Option (Mk × List UInt8) :=
  let neg := r.head? = some 33 || r.head? = some 94
  let l := if neg then r.tail else r
  (setL (l.length + 1) true l [] []).map fun x => (⟨false, neg, x.1.1, x.1.2⟩, x.2)
/-- a piece's marks. -/
def pieceA : Nat → List Mk → List UInt8 → Option (List Mk)
  | 0, _, _ => none
  | _ + 1, out, [] => some out
  | n + 1, out, c :: r =>
    if c = 42 then pieceA n (out ++ [⟨true, false, [], []⟩]) r
    else if c = 63 then pieceA n (out ++ [⟨false, true, [], []⟩]) r
    else if c = 91 then match setOpen r with
      | none => none
      | some (m, r') => pieceA n (out ++ [m]) r'
    else match oneL (c :: r) with
      | none => none
      | some (d, r') => pieceA n (out ++ [⟨false, false, [d], [d]⟩]) r'
/-- a pattern's piece. -/
structure Pc where
  deep : Bool
  marks : List Mk
def pieceL (p : List UInt8) : Option (List Mk) := pieceA (p.length + 1) [] p
def readA : List (List UInt8) → List Pc → Option (List Pc)
  | [], out => some out
  | p :: ps, out => if p = [42, 42] then readA ps (out ++ [⟨true, []⟩]) else match pieceL p with
    | none => none
    | some ms => readA ps (out ++ [⟨false, ms⟩])
/-- a pattern; none: it is none. -/
def readL (pat : List UInt8) : Option (List Pc) := if 1020 < pat.length ∨ namesL pat = [] then none else readA (namesL pat) []
def Mk.takes (m : Mk) (c : UInt8) : Bool := if (m.fr.zip m.to).any (fun p => decide (p.1 ≤ c) && decide (c ≤ p.2)) then !m.neg else m.neg
def takesName (ms : List Mk) (s : List UInt8) : Bool := Gm.mm Mk.any Mk.takes ms s
def takesAll (ps : List Pc) (l : List (List UInt8)) : Bool := Gm.mm Pc.deep (fun p s => takesName p.marks s) ps l
def matchL (pat p : List UInt8) : Option Bool := (readL pat).map fun ps => takesAll ps (namesL p)
end Go.Proofs.YtdjfakampjbgeaaDoor.Gl
