/- strataref18: cut, walked. -/
import Derived.Test.YtdaejggcjjdhkaaGreatDoorMkC
import Derived.Test.YtdaejggcjjdhkaaGreatDoorMkA
import Derived.Laws.OwnMore
import Derived.Deep.QuietTactic
import Derived.BigQuiet
namespace Go.Proofs.YtdaejggcjjdhkaaGreatDoor
open Go Go.RowKit
namespace Ck
def glue (cur : List UInt8) (L : List (List UInt8)) : List (List UInt8) := (cur ++ L.headD []) :: L.tail
theorem glue_nil (k : UInt8) (s : List UInt8) : glue [] (Gl.cutL k s) = Gl.cutL k s := by
  rw [Gl.cutL_ne k s]; rfl
theorem glue_end (k : UInt8) (cur : List UInt8) : glue cur (Gl.cutL k []) = [cur] := by
  show (cur ++ []) :: [] = _
  rw [List.append_nil]
theorem glue_hit (k : UInt8) (cur r : List UInt8) : glue cur (Gl.cutL k (k :: r)) = cur :: glue [] (Gl.cutL k r) := by
  rw [glue_nil, Gl.cutL, if_pos rfl]
  show (cur ++ []) :: Gl.cutL k r = _
  rw [List.append_nil]
theorem glue_go (k : UInt8) (cur r : List UInt8) {c : UInt8} (h : ¬ c = k) : glue cur (Gl.cutL k (c :: r)) = glue (cur ++ [c]) (Gl.cutL k r) := by
  rw [Gl.cutL, if_neg h]
  show (cur ++ c :: (Gl.cutL k r).headD []) :: (Gl.cutL k r).tail = (cur ++ [c] ++ (Gl.cutL k r).headD []) :: (Gl.cutL k r).tail
  rw [List.append_assoc]
  rfl
end Ck
end Go.Proofs.YtdaejggcjjdhkaaGreatDoor
