/-
  The arguments of the laws on journals, opened. Conditions: none.
-/
import Derived.Test.YtehdjajeonemoaaRow
import Derived.Test.YtehdjajeonemoaaArgJ
import Derived.SliceStrings
namespace Go.Proofs.Ytehdjajeonemoaa
open Go.ChangeShapes Go.WideShapes Go.ChangeAt Go.RowKit

section opens
variable {H : Type} {enc : TypeId × Value → H} {W : World} {base : Nat} {sp : Nat → Bool} {held : Bool}

theorem row_strs {ao : Option Addr} {len cap : Nat} {d : DataW H} {ps : List MemPlace} (h : DataW.Trod enc Try.prog W base sp held 64 (.slice ao len cap) d ps) : ∃ q : List ByteArray, q.length = len ∧ ArgStrs W ao q ∧ len ≤ maxLen := by
  obtain ⟨fuel, hf⟩ := h
  rcases Go.ChangeShapes.open_strings Try.underlying64 Try.underlying9 row_cells9 hf with ⟨hcs, _⟩ | ⟨x, l, c, zs, hcs, _, hl, hm, hz, _, hcell, hwz⟩
  · simp [Value.cells] at hcs
    obtain ⟨rfl, rfl, rfl⟩ := hcs
    exact ⟨[], rfl, ⟨fun i hi => absurd hi (Nat.not_lt_zero _)⟩, Nat.zero_le _⟩
  · simp [Value.cells] at hcs
    obtain ⟨rfl, rfl, rfl⟩ := hcs
    have hle : len ≤ zs.length := by rw [hz]; split <;> omega
    refine ⟨zs.take len, by simp; omega, ⟨fun i hi => ?_⟩, by omega⟩
    have hi' : i < len := by simp at hi; omega
    have hg : (zs.take len)[i] = zs.getD i ByteArray.empty := by simp [List.getD, show i < zs.length by omega]
    have hc := hcell i (by omega)
    obtain ⟨b, o, spot⟩ := x
    have hs : spot = none := by
      have := World.cell?_spot (hcell 0 (by omega))
      simpa [Addr.add] using this
    subst hs
    have hw := hwz (zs.getD i ByteArray.empty) (by
      rw [List.getD, List.getElem?_eq_getElem (show i < zs.length by omega)]
      exact List.getElem_mem _)
    refine ⟨b, o, rfl, ?_, by rw [hg]; unfold maxLen at hw; omega⟩
    rw [hg, ← hc]
    by_cases hi0 : i = 0
    · subst hi0; simp [Addr.add]
    · simp [Addr.add, hi0]
theorem wf_u8 {n : Int} (h : (Lit.int .u8 n).wf = true) : 0 ≤ n ∧ n ≤ 255 := by
  have h' : IntKind.u8.min ≤ n ∧ n ≤ IntKind.u8.max := by simpa [Lit.wf] using h
  exact h'
theorem wf_u32 {n : Int} (h : (Lit.int .u32 n).wf = true) : 0 ≤ n ∧ n ≤ 4294967295 := by
  have h' : IntKind.u32.min ≤ n ∧ n ≤ IntKind.u32.max := by simpa [Lit.wf] using h
  exact h'
end opens
end Go.Proofs.Ytehdjajeonemoaa
