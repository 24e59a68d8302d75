/-
  The arguments of the laws that are arrays of slices, opened. Conditions: none.
-/
import Derived.Test.YtgnjakaamgeibaaGreatDoorRowX
namespace Go.Proofs.YtgnjakaamgeibaaGreatDoor
open Go.ChangeShapes Go.WideShapes Go.ChangeAt Go.RowKit
open Go.ChangeMaps (open_string shut_string)
theorem row_cells22 : Tryz.prog.cellsOf 22 = 1 := by kernel_rfl
section opens
variable {H : Type} {enc : TypeId × Value → H} {W : World} {base : Nat} {sp : Nat → Bool} {held : Bool}
theorem ints_of {v : Value} {fuel : Nat} {x : DataW H × List MemPlace} (hf : DataW.trod enc Tryz.prog W base sp held fuel 22 [v] = some x) : ∃ ao n cap, ∃ l : List Int, v = .slice ao n cap ∧ l.length = n ∧ IntsAt W ao l ∧ n ≤ maxLen := by
  rcases Go.ChangeShapes.open_ints Tryz.underlying22 Tryz.underlying3 row_cells3 hf with ⟨hcs, _⟩ | ⟨x, l, c, zs, hcs, _, hl, hm, hz, _, hcell, hwz⟩
  · simp at hcs
    subst hcs
    exact ⟨none, 0, 0, [], rfl, rfl, fun i hi => absurd hi (Nat.not_lt_zero _), Nat.zero_le _⟩
  · simp at hcs
    subst hcs
    have hle : l ≤ zs.length := by rw [hz]; split <;> omega
    refine ⟨_, _, _, zs.take l, rfl, by simp; omega, fun i hi => ?_, by omega⟩
    have hi' : i < l := by simp at hi; omega
    have hg : (zs.take l).getD i 0 = zs.getD i 0 := by simp [List.getD, hi']
    have hc := hcell i (by omega)
    obtain ⟨b, o, spot⟩ := x
    have hs : spot = none := by
      have := World.cell?_spot (hcell 0 (by omega))
      simpa [Addr.add] using this
    subst hs
    have hw := wf_i64 (hwz (zs.getD i 0) (by
      rw [List.getD, List.getElem?_eq_getElem (show i < zs.length by omega)]
      exact List.getElem_mem _))
    refine ⟨b, o, rfl, ?_, by rw [hg]; exact hw.1, by rw [hg]; exact hw.2⟩
    rw [hg]
    rw [← hc]
    by_cases hi0 : i = 0
    · subst hi0; simp [Addr.add]
    · simp [Addr.add, hi0]
end opens
end Go.Proofs.YtgnjakaamgeibaaGreatDoor
