/-
  The reference's Made: a pattern that numbers determine. Conditions: the numbers lie in memory.
-/
import Derived.Test.YtgnjakaamgeibaaGreatDoorOps
import Derived.Test.YtgnjakaamgeibaaGreatDoorRdr2
namespace Go.Proofs.YtgnjakaamgeibaaGreatDoor
open Go.RowKit Go.Shelf
attribute [local go_sem] Oper.semAt_some
/-- Numbers in memory. -/
def IntsAt (w : World) (ao : Option Addr) (q : List Int) : Prop := ∀ i, i < q.length → ∃ b o, ao = some ⟨b, o, none⟩ ∧ w.cell? ⟨b, o + i, none⟩ = some (.int .i64 (q.getD i 0)) ∧ -9223372036854775808 ≤ q.getD i 0 ∧ q.getD i 0 ≤ 9223372036854775807
theorem IntsAt.still {w w' : World} {ao : Option Addr} {q : List Int} (h : IntsAt w ao q) (hf : Frm (fun _ => False) w w') : IntsAt w' ao q := by
  intro i hi
  obtain ⟨b, o, hb, hc, hr⟩ := h i hi
  exact ⟨b, o, hb, hf.cell hc (fun h => h), hr⟩
end Go.Proofs.YtgnjakaamgeibaaGreatDoor
