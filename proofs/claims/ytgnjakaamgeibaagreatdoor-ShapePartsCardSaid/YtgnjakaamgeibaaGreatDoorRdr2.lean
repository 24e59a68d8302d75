/-
  The reader of a pattern's written form: character, next. Conditions: the reader and its pieces lie in memory, its string is short.
-/
import Derived.Test.YtgnjakaamgeibaaGreatDoorRdr
import Derived.BigRegion
import Derived.StillTailTactics
namespace Go.Proofs.YtgnjakaamgeibaaGreatDoor
open Go.RowKit Go.Shelf
attribute [local go_sem] Oper.semAt_some
theorem Pcs.grow {w : World} {g cap : Nat} {ps : List Pc} {p : Pc} {n : Nat} (hn : n = ps.length + 1) (h : w.ownsRow 0 66 4 (.slice (some ⟨g, 0, none⟩) n cap) n (ps.flatMap pcC ++ pcC p)) : Pcs w (.slice (some ⟨g, 0, none⟩) n cap) (ps ++ [p]) := by
  subst hn
  unfold Pcs
  rw [List.length_append, List.flatMap_append]
  simpa using h
end Go.Proofs.YtgnjakaamgeibaaGreatDoor
