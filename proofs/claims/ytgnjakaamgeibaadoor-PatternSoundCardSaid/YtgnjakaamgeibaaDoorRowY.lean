/-
  The arguments of the laws that are arrays of slices, opened. Conditions: none.
-/
import Derived.Test.YtgnjakaamgeibaaDoorRowX
namespace Go.Proofs.YtgnjakaamgeibaaDoor
open Go.ChangeShapes Go.WideShapes Go.ChangeAt Go.RowKit
open Go.ChangeMaps (open_string shut_string)
theorem row_cells58 : Tryd.prog.cellsOf 58 = 2 := by kernel_rfl
theorem row_cells22 : Tryd.prog.cellsOf 22 = 1 := by kernel_rfl
section opens
variable {H : Type} {enc : TypeId × Value → H} {W : World} {base : Nat} {sp : Nat → Bool} {held : Bool}
theorem ints_of {v : Value} {fuel : Nat} {x : DataW H × List MemPlace} (hf : DataW.trod enc Tryd.prog W base sp held fuel 22 [v] = some x) : ∃ ao n cap, ∃ l : List Int, v = .slice ao n cap ∧ l.length = n ∧ IntsAt W ao l ∧ n ≤ maxLen := by
  rcases Go.ChangeShapes.open_ints Tryd.underlying22 Tryd.underlying3 row_cells3 hf with ⟨hcs, _⟩ | ⟨x, l, c, zs, hcs, _, hl, hm, hz, _, hcell, hwz⟩
  · simp at hcs
    subst hcs
    exact ⟨none, 0, 0, [], rfl, rfl, fun i hi => absurd hi (Nat.not_lt_zero _), Nat.zero_le _⟩
  · simp at hcs
    subst hcs
    have hle : l ≤ zs.length := by rw [hz]; split <;> omega
    refine ⟨_, _, _, zs.take l, rfl, by simp; omega, fun i hi => ?_, by omega⟩
    have hi' : i < l := by simp at hi; omega
    have hg : (zs.take l).getD i 0 = zs.getD i 0 := by simp [List.getD, hi']
    have hc := hcell i (by omega)
    obtain ⟨b, o, spot⟩ := x
    have hs : spot = none := by
      have := World.cell?_spot (hcell 0 (by omega))
      simpa [Addr.add] using this
    subst hs
    have hw := wf_i64 (hwz (zs.getD i 0) (by
      rw [List.getD, List.getElem?_eq_getElem (show i < zs.length by omega)]
      exact List.getElem_mem _))
    refine ⟨b, o, rfl, ?_, by rw [hg]; exact hw.1, by rw [hg]; exact hw.2⟩
    rw [hg]
    rw [← hc]
    by_cases hi0 : i = 0
    · subst hi0; simp [Addr.add]
    · simp [Addr.add, hi0]
set_option maxRecDepth 20000 in
theorem row_two {r : Reach} {b0 : Nat} {v : Value} {d : DataW H} {ps : List MemPlace} (hv : Value.okWide Tryd.prog W r b0 58 v) (h : DataW.Trod enc Tryd.prog W base sp held 58 v d ps) :
    ∃ ao n cap ao1 n1 cap1, ∃ l l1 : List Int, v = .agg #[.slice ao n cap, .slice ao1 n1 cap1] ∧ (l.length = n ∧ IntsAt W ao l ∧ n ≤ maxLen) ∧ (l1.length = n1 ∧ IntsAt W ao1 l1 ∧ n1 ≤ maxLen) := by
  simp only [Value.okWide, Tryd.underlying58] at hv
  obtain ⟨cs, rfl, hsz, -⟩ := hv
  obtain ⟨fuel, hf⟩ := h
  obtain ⟨xs, m, -, -, hl, hxl, hel⟩ := Go.DataW.trod_array Tryd.underlying58 hf
  rw [row_cells58] at hsz
  obtain ⟨v0, v1, rfl⟩ : ∃ v0 v1, cs = #[v0, v1] := by
    obtain ⟨l⟩ := cs
    match l, hsz with
    | [v0, v1], _ => exact ⟨v0, v1, rfl⟩
  match xs, hxl with
  | [y0, y1], _ =>
    have g0 := hel 0 (by omega)
    have g1 := hel 1 (by omega)
    simp [row_cells22, Value.cells] at g0 g1
    obtain ⟨ao, n, cap, l, rfl, h1, h2, h3⟩ := ints_of g0
    obtain ⟨ao1, n1, cap1, l1, rfl, h4, h5, h6⟩ := ints_of g1
    exact ⟨ao, n, cap, ao1, n1, cap1, l, l1, rfl, ⟨h1, h2, h3⟩, ⟨h4, h5, h6⟩⟩
end opens
end Go.Proofs.YtgnjakaamgeibaaDoor
