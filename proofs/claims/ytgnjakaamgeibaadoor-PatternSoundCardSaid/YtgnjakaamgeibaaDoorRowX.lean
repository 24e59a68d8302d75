/-
  The arguments of the laws that are slices, opened. Conditions: none.
-/
import Derived.Test.YtgnjakaamgeibaaDoorRowD
import Derived.Test.YtgnjakaamgeibaaDoorSme
import Derived.Deep.Slices
namespace Go.Proofs.YtgnjakaamgeibaaDoor
open Go.ChangeShapes Go.WideShapes Go.ChangeAt Go.RowKit
open Go.ChangeMaps (open_string shut_string)

theorem row_cells53 : Tryd.prog.cellsOf 53 = 4 := by kernel_rfl
theorem row_cells3 : Tryd.prog.cellsOf 3 = 1 := by kernel_rfl
theorem row_cells9 : Tryd.prog.cellsOf 9 = 1 := by kernel_rfl

section opens
variable {H : Type} {enc : TypeId × Value → H} {W : World} {base : Nat} {sp : Nat → Bool} {held : Bool}

set_option maxRecDepth 20000 in
theorem row_pcs {ao : Option Addr} {len cap : Nat} {d : DataW H} {ps : List MemPlace} (h : DataW.Trod enc Tryd.prog W base sp held 46 (.slice ao len cap) d ps) : ∃ l : List Pc, l.length = len ∧ PcsAt W ao l ∧ len ≤ maxLen := by
  obtain ⟨fuel, hf⟩ := h
  rcases Deep.open_slice Tryd.underlying46 hf with ⟨hcs, -⟩ | ⟨a, l0, c0, m, n, D, Pl, hcs, -, hl, hm, hmm, -, hel⟩
  · simp [Value.cells] at hcs
    obtain ⟨rfl, rfl, rfl⟩ := hcs
    exact ⟨[], rfl, fun i hi => absurd hi (Nat.not_lt_zero _), Nat.zero_le _⟩
  · simp [Value.cells] at hcs
    obtain ⟨rfl, rfl, rfl⟩ := hcs
    have hle : len ≤ m := by rw [hmm]; split <;> omega
    have each : ∀ i, i < len → ∃ q : Pc, ∃ b o, some a = some ⟨b, o, none⟩ ∧ W.cell? ⟨b, o + i * 4, none⟩ = some (.int .i64 q.cls) ∧ W.cell? ⟨b, o + i * 4 + 1, none⟩ = some (.int .i64 q.lo) ∧ W.cell? ⟨b, o + i * 4 + 2, none⟩ = some (.int .i64 q.hi) ∧ W.cell? ⟨b, o + i * 4 + 3, none⟩ = some (.string q.txt) ∧ q.txt.size ≤ 9223372036854775807 := by
      intro i hi
      obtain ⟨cs', h1, h2⟩ := hel i (by omega)
      rw [row_cells53] at h1
      obtain ⟨_, hlen, hcell⟩ := World.cells?_some h1
      obtain ⟨xs, k, hk, hxy, _, hxl, hf⟩ := DataW.trod_struct Tryd.underlying53 h2
      match xs, hxl, cs', hlen with
      | [y0, y1, y2, y3], _, [v0, v1, v2, v3], _ =>
        have g0 := hf 0 _ rfl
        have g1 := hf 1 _ rfl
        have g2 := hf 2 _ rfl
        have g3 := hf 3 _ rfl
        simp [row_cells3, row_cells9] at g0 g1 g2 g3
        obtain ⟨n0, e0, -, w0⟩ := DataW.trod_int Tryd.underlying3 g0
        obtain ⟨n1, e1, -, w1⟩ := DataW.trod_int Tryd.underlying3 g1
        obtain ⟨n2, e2, -, w2⟩ := DataW.trod_int Tryd.underlying3 g2
        obtain ⟨s3, e3, -, w3⟩ := DataW.trod_string Tryd.underlying9 g3
        cases e0
        cases e1
        cases e2
        cases e3
        have c0 := hcell 0 (by omega)
        have c1 := hcell 1 (by omega)
        have c2 := hcell 2 (by omega)
        have c3 := hcell 3 (by omega)
        obtain ⟨b, o, spot⟩ := a
        have hs : spot = none := by
          obtain ⟨cs0, k1, -⟩ := hel 0 (by omega)
          rw [row_cells53] at k1
          obtain ⟨_, hl0, hc0⟩ := World.cells?_some k1
          match cs0, hl0 with
          | u :: us, _ =>
            have := World.cell?_spot (hc0 0 (by omega))
            simpa [Addr.add] using this
        subst hs
        rw [Deep.add_add] at c0 c1 c2 c3
        refine ⟨⟨n0, n1, n2, s3⟩, b, o, rfl, ?_, ?_, ?_, ?_, Nat.le_trans w3 (by decide)⟩
        · by_cases hi0 : i = 0
          · subst hi0; simpa [Addr.add] using c0
          · have hi4 : ¬ i * 4 = 0 := by omega
            simpa [Addr.add, hi4] using c0
        · simpa [Addr.add, Nat.add_assoc] using c1
        · simpa [Addr.add, Nat.add_assoc] using c2
        · simpa [Addr.add, Nat.add_assoc] using c3
    obtain ⟨f, hfx⟩ : ∃ f : Nat → Pc, ∀ i, i < len → ∃ b o, some a = some ⟨b, o, none⟩ ∧ W.cell? ⟨b, o + i * 4, none⟩ = some (.int .i64 (f i).cls) ∧ W.cell? ⟨b, o + i * 4 + 1, none⟩ = some (.int .i64 (f i).lo) ∧ W.cell? ⟨b, o + i * 4 + 2, none⟩ = some (.int .i64 (f i).hi) ∧ W.cell? ⟨b, o + i * 4 + 3, none⟩ = some (.string (f i).txt) ∧ (f i).txt.size ≤ 9223372036854775807 := by
      classical
      refine ⟨fun i => if hi : i < len then Classical.choose (each i hi) else ⟨0, 0, 0, ⟨#[]⟩⟩, fun i hi => ?_⟩
      simp only [dif_pos hi]
      exact Classical.choose_spec (each i hi)
    refine ⟨(List.range len).map f, by simp, fun i hi => ?_, by omega⟩
    have hi' : i < len := by simpa using hi
    obtain ⟨b, o, e, h0, h1, h2, h3, h4⟩ := hfx i hi'
    have hg : ((List.range len).map f)[i] = f i := by simp
    rw [hg]
    exact ⟨b, o, e, ⟨h0, h1, h2, h3⟩, h4⟩

theorem row_ints {ao : Option Addr} {len cap : Nat} {d : DataW H} {ps : List MemPlace} (h : DataW.Trod enc Tryd.prog W base sp held 22 (.slice ao len cap) d ps) : ∃ q : List Int, q.length = len ∧ IntsAt W ao q ∧ len ≤ maxLen := by
  obtain ⟨fuel, hf⟩ := h
  rcases Go.ChangeShapes.open_ints Tryd.underlying22 Tryd.underlying3 row_cells3 hf with ⟨hcs, _⟩ | ⟨x, l, c, zs, hcs, _, hl, hm, hz, _, hcell, hwz⟩
  · simp [Value.cells] at hcs
    obtain ⟨rfl, rfl, rfl⟩ := hcs
    exact ⟨[], rfl, fun i hi => absurd hi (Nat.not_lt_zero _), Nat.zero_le _⟩
  · simp [Value.cells] at hcs
    obtain ⟨rfl, rfl, rfl⟩ := hcs
    have hle : len ≤ zs.length := by rw [hz]; split <;> omega
    refine ⟨zs.take len, by simp; omega, fun i hi => ?_, by omega⟩
    have hi' : i < len := by simp at hi; omega
    have hg : (zs.take len).getD i 0 = zs.getD i 0 := by simp [List.getD, hi']
    have hc := hcell i (by omega)
    obtain ⟨b, o, spot⟩ := x
    have hs : spot = none := by
      have := World.cell?_spot (hcell 0 (by omega))
      simpa [Addr.add] using this
    subst hs
    have hw := wf_i64 (hwz (zs.getD i 0) (by
      rw [List.getD, List.getElem?_eq_getElem (show i < zs.length by omega)]
      exact List.getElem_mem _))
    refine ⟨b, o, rfl, ?_, by rw [hg]; exact hw.1, by rw [hg]; exact hw.2⟩
    rw [hg]
    rw [← hc]
    by_cases hi0 : i = 0
    · subst hi0; simp [Addr.add]
    · simp [Addr.add, hi0]

end opens
end Go.Proofs.YtgnjakaamgeibaaDoor
