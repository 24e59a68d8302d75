/-
  Finds, and what covers what: plain lists. Nothing of the program is imported. Conditions: none.
-/
import Derived.Test.YtgnjakaamgeibaaGreatDoorPat
namespace Go.Proofs.YtgnjakaamgeibaaGreatDoor
def leastP (b : Pc) : Int := if b.cls = 0 then (b.t.length : Int) else b.lo
def mostP (b : Pc) : Int := if b.cls = 0 then (b.t.length : Int) else b.hi
def sumL (f : Pc → Int) (q : List Pc) : Int := q.foldl (fun v b => v + f b) 0
theorem sum_snoc (f : Pc → Int) (b : Pc) (q : List Pc) : sumL f (q ++ [b]) = sumL f q + f b := by simp [sumL]
end Go.Proofs.YtgnjakaamgeibaaGreatDoor
