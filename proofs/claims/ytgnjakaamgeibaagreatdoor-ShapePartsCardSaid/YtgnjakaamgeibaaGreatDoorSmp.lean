/-
  The reference's Sample: a text that a pattern matches. Conditions: the pieces are right, few and short; the numbers lie in memory.
-/
import Derived.Test.YtgnjakaamgeibaaGreatDoorMde
import Derived.Test.YtgnjakaamgeibaaGreatDoorDec
namespace Go.Proofs.YtgnjakaamgeibaaGreatDoor
open Go.RowKit Go.Shelf
attribute [local go_sem] Oper.semAt_some
theorem ints_at {w : World} {b o : Nat} {q : List Int} (h : IntsAt w (some ⟨b, o, none⟩) q) (j : Nat) (hj : j < q.length) : w.cell? ⟨b, o + j, none⟩ = some (.int .i64 q[j]) ∧ -9223372036854775808 ≤ q[j] ∧ q[j] ≤ 9223372036854775807 := by
  obtain ⟨b', o', e, hc, h1, h2⟩ := h j hj
  injection e with e
  injection e with e1 e2 _
  subst e1
  subst e2
  rw [List.getD_eq_getElem?_getD, List.getElem?_eq_getElem hj] at hc h1 h2
  exact ⟨hc, h1, h2⟩
end Go.Proofs.YtgnjakaamgeibaaGreatDoor
