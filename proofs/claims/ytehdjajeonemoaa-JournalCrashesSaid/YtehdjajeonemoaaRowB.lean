/-
  A list of numbers among a law's arguments, opened. Conditions: none.
-/
import Derived.Test.YtehdjajeonemoaaRowJ
import Derived.Test.YtehdjajeonemoaaLawTorn
namespace Go.Proofs.Ytehdjajeonemoaa
open Go.ChangeShapes Go.WideShapes Go.ChangeAt Go.RowKit

theorem row_cells5 : Try.prog.cellsOf 5 = 1 := by kernel_rfl
section opens
variable {H : Type} {enc : TypeId × Value → H} {W : World} {base : Nat} {sp : Nat → Bool} {held : Bool}

theorem row_bytes {ao : Option Addr} {len cap : Nat} {d : DataW H} {ps : List MemPlace} (h : DataW.Trod enc Try.prog W base sp held 56 (.slice ao len cap) d ps) : ∃ q : List Nat, q.length = len ∧ BytesAt W ao q ∧ len ≤ maxLen := by
  obtain ⟨fuel, hf⟩ := h
  rcases Go.ChangeShapes.open_ints Try.underlying56 Try.underlying5 row_cells5 hf with ⟨hcs, _⟩ | ⟨x, l, c, zs, hcs, _, hl, hm, hz, _, hcell, hwz⟩
  · simp [Value.cells] at hcs
    obtain ⟨rfl, rfl, rfl⟩ := hcs
    exact ⟨[], rfl, fun i hi => absurd hi (Nat.not_lt_zero _), Nat.zero_le _⟩
  · simp [Value.cells] at hcs
    obtain ⟨rfl, rfl, rfl⟩ := hcs
    have hle : len ≤ zs.length := by rw [hz]; split <;> omega
    refine ⟨(zs.take len).map Int.toNat, by simp; omega, fun i hi => ?_, by omega⟩
    have hi' : i < len := by simp at hi; omega
    have hw := wf_u8 (hwz zs[i] (List.getElem_mem _))
    have hg : (((((zs.take len).map Int.toNat)[i] : Nat)) : Int) = zs.getD i 0 := by
      rw [List.getElem_map, List.getElem_take, List.getD, List.getElem?_eq_getElem (show i < zs.length by omega)]
      simp
      omega
    have hg2 : zs.getD i 0 = zs[i] := by rw [List.getD, List.getElem?_eq_getElem (show i < zs.length by omega)]; rfl
    have hc := hcell i (by omega)
    obtain ⟨b, o, spot⟩ := x
    have hs : spot = none := by
      have := World.cell?_spot (hcell 0 (by omega))
      simpa [Addr.add] using this
    subst hs
    refine ⟨b, o, rfl, ?_, by omega⟩
    rw [hg]
    rw [← hc]
    by_cases hi0 : i = 0
    · subst hi0; simp [Addr.add]
    · simp [Addr.add, hi0]
end opens
end Go.Proofs.Ytehdjajeonemoaa
