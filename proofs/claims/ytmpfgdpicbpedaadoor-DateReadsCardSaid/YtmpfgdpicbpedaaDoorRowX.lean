/-
  Arguments that are arrays, opened. Printed by wip/rowx.py. Conditions: none.
-/
import Derived.Test.YtmpfgdpicbpedaaDoorRowD
namespace Go.Proofs.YtmpfgdpicbpedaaDoor
open Go.ChangeShapes Go.WideShapes Go.ChangeAt Go.RowKit

theorem c5 : Tryd.prog.cellsOf 5 = 1 := by kernel_rfl
section opens
variable {H : Type} {enc : TypeId × Value → H} {W : World} {base : Nat} {sp : Nat → Bool} {held : Bool}

theorem cA22 : Tryd.prog.cellsOf 22 = 3 := by kernel_rfl
set_option maxRecDepth 20000 in
theorem row_i3 {r : Reach} {b0 : Nat} {v : Value} {d : DataW H} {ps : List MemPlace} (hv : Value.okWide Tryd.prog W r b0 22 v) (h : DataW.Trod enc Tryd.prog W base sp held 22 v d ps) : ∃ n0 n1 n2 : Int, v = .agg #[.int .i64 n0, .int .i64 n1, .int .i64 n2] ∧ (-9223372036854775808 ≤ n0 ∧ n0 ≤ 9223372036854775807) ∧ (-9223372036854775808 ≤ n1 ∧ n1 ≤ 9223372036854775807) ∧ (-9223372036854775808 ≤ n2 ∧ n2 ≤ 9223372036854775807) := by
  simp only [Value.okWide, Tryd.underlying22] at hv
  obtain ⟨cs, rfl, hsz, -⟩ := hv
  obtain ⟨fuel, hf⟩ := h
  obtain ⟨xs, m, -, -, hl, hxl, hel⟩ := Go.DataW.trod_array Tryd.underlying22 hf
  rw [cA22] at hsz
  obtain ⟨v0, v1, v2, rfl⟩ : ∃ v0 v1 v2, cs = #[v0, v1, v2] := by
    obtain ⟨l⟩ := cs
    match l, hsz with
    | [v0, v1, v2], _ => exact ⟨v0, v1, v2, rfl⟩
  match xs, hxl with
  | [y0, y1, y2], _ =>
    have g0 := hel 0 (by omega)
    have g1 := hel 1 (by omega)
    have g2 := hel 2 (by omega)
    simp [c3, Value.cells] at g0 g1 g2
    obtain ⟨n0, e0, -, w0⟩ := DataW.trod_int Tryd.underlying3 g0
    cases e0
    obtain ⟨n1, e1, -, w1⟩ := DataW.trod_int Tryd.underlying3 g1
    cases e1
    obtain ⟨n2, e2, -, w2⟩ := DataW.trod_int Tryd.underlying3 g2
    cases e2
    exact ⟨n0, n1, n2, rfl, wf_i64 w0, wf_i64 w1, wf_i64 w2⟩

theorem cA23 : Tryd.prog.cellsOf 23 = 3 := by kernel_rfl
set_option maxRecDepth 20000 in
theorem row_b3 {r : Reach} {b0 : Nat} {v : Value} {d : DataW H} {ps : List MemPlace} (hv : Value.okWide Tryd.prog W r b0 23 v) (h : DataW.Trod enc Tryd.prog W base sp held 23 v d ps) : ∃ n0 n1 n2 : Int, v = .agg #[.int .u8 n0, .int .u8 n1, .int .u8 n2] ∧ (0 ≤ n0 ∧ n0 ≤ 255) ∧ (0 ≤ n1 ∧ n1 ≤ 255) ∧ (0 ≤ n2 ∧ n2 ≤ 255) := by
  simp only [Value.okWide, Tryd.underlying23] at hv
  obtain ⟨cs, rfl, hsz, -⟩ := hv
  obtain ⟨fuel, hf⟩ := h
  obtain ⟨xs, m, -, -, hl, hxl, hel⟩ := Go.DataW.trod_array Tryd.underlying23 hf
  rw [cA23] at hsz
  obtain ⟨v0, v1, v2, rfl⟩ : ∃ v0 v1 v2, cs = #[v0, v1, v2] := by
    obtain ⟨l⟩ := cs
    match l, hsz with
    | [v0, v1, v2], _ => exact ⟨v0, v1, v2, rfl⟩
  match xs, hxl with
  | [y0, y1, y2], _ =>
    have g0 := hel 0 (by omega)
    have g1 := hel 1 (by omega)
    have g2 := hel 2 (by omega)
    simp [c5, Value.cells] at g0 g1 g2
    obtain ⟨n0, e0, -, w0⟩ := DataW.trod_int Tryd.underlying5 g0
    cases e0
    obtain ⟨n1, e1, -, w1⟩ := DataW.trod_int Tryd.underlying5 g1
    cases e1
    obtain ⟨n2, e2, -, w2⟩ := DataW.trod_int Tryd.underlying5 g2
    cases e2
    exact ⟨n0, n1, n2, rfl, wf_u8 w0, wf_u8 w1, wf_u8 w2⟩

theorem cA47 : Tryd.prog.cellsOf 47 = 8 := by kernel_rfl
set_option maxRecDepth 20000 in
theorem row_i8 {r : Reach} {b0 : Nat} {v : Value} {d : DataW H} {ps : List MemPlace} (hv : Value.okWide Tryd.prog W r b0 47 v) (h : DataW.Trod enc Tryd.prog W base sp held 47 v d ps) : ∃ n0 n1 n2 n3 n4 n5 n6 n7 : Int, v = .agg #[.int .i64 n0, .int .i64 n1, .int .i64 n2, .int .i64 n3, .int .i64 n4, .int .i64 n5, .int .i64 n6, .int .i64 n7] ∧ (-9223372036854775808 ≤ n0 ∧ n0 ≤ 9223372036854775807) ∧ (-9223372036854775808 ≤ n1 ∧ n1 ≤ 9223372036854775807) ∧ (-9223372036854775808 ≤ n2 ∧ n2 ≤ 9223372036854775807) ∧ (-9223372036854775808 ≤ n3 ∧ n3 ≤ 9223372036854775807) ∧ (-9223372036854775808 ≤ n4 ∧ n4 ≤ 9223372036854775807) ∧ (-9223372036854775808 ≤ n5 ∧ n5 ≤ 9223372036854775807) ∧ (-9223372036854775808 ≤ n6 ∧ n6 ≤ 9223372036854775807) ∧ (-9223372036854775808 ≤ n7 ∧ n7 ≤ 9223372036854775807) := by
  simp only [Value.okWide, Tryd.underlying47] at hv
  obtain ⟨cs, rfl, hsz, -⟩ := hv
  obtain ⟨fuel, hf⟩ := h
  obtain ⟨xs, m, -, -, hl, hxl, hel⟩ := Go.DataW.trod_array Tryd.underlying47 hf
  rw [cA47] at hsz
  obtain ⟨v0, v1, v2, v3, v4, v5, v6, v7, rfl⟩ : ∃ v0 v1 v2 v3 v4 v5 v6 v7, cs = #[v0, v1, v2, v3, v4, v5, v6, v7] := by
    obtain ⟨l⟩ := cs
    match l, hsz with
    | [v0, v1, v2, v3, v4, v5, v6, v7], _ => exact ⟨v0, v1, v2, v3, v4, v5, v6, v7, rfl⟩
  match xs, hxl with
  | [y0, y1, y2, y3, y4, y5, y6, y7], _ =>
    have g0 := hel 0 (by omega)
    have g1 := hel 1 (by omega)
    have g2 := hel 2 (by omega)
    have g3 := hel 3 (by omega)
    have g4 := hel 4 (by omega)
    have g5 := hel 5 (by omega)
    have g6 := hel 6 (by omega)
    have g7 := hel 7 (by omega)
    simp [c3, Value.cells] at g0 g1 g2 g3 g4 g5 g6 g7
    obtain ⟨n0, e0, -, w0⟩ := DataW.trod_int Tryd.underlying3 g0
    cases e0
    obtain ⟨n1, e1, -, w1⟩ := DataW.trod_int Tryd.underlying3 g1
    cases e1
    obtain ⟨n2, e2, -, w2⟩ := DataW.trod_int Tryd.underlying3 g2
    cases e2
    obtain ⟨n3, e3, -, w3⟩ := DataW.trod_int Tryd.underlying3 g3
    cases e3
    obtain ⟨n4, e4, -, w4⟩ := DataW.trod_int Tryd.underlying3 g4
    cases e4
    obtain ⟨n5, e5, -, w5⟩ := DataW.trod_int Tryd.underlying3 g5
    cases e5
    obtain ⟨n6, e6, -, w6⟩ := DataW.trod_int Tryd.underlying3 g6
    cases e6
    obtain ⟨n7, e7, -, w7⟩ := DataW.trod_int Tryd.underlying3 g7
    cases e7
    exact ⟨n0, n1, n2, n3, n4, n5, n6, n7, rfl, wf_i64 w0, wf_i64 w1, wf_i64 w2, wf_i64 w3, wf_i64 w4, wf_i64 w5, wf_i64 w6, wf_i64 w7⟩

theorem cA54 : Tryd.prog.cellsOf 54 = 2 := by kernel_rfl
set_option maxRecDepth 20000 in
theorem row_b2 {r : Reach} {b0 : Nat} {v : Value} {d : DataW H} {ps : List MemPlace} (hv : Value.okWide Tryd.prog W r b0 54 v) (h : DataW.Trod enc Tryd.prog W base sp held 54 v d ps) : ∃ n0 n1 : Int, v = .agg #[.int .u8 n0, .int .u8 n1] ∧ (0 ≤ n0 ∧ n0 ≤ 255) ∧ (0 ≤ n1 ∧ n1 ≤ 255) := by
  simp only [Value.okWide, Tryd.underlying54] at hv
  obtain ⟨cs, rfl, hsz, -⟩ := hv
  obtain ⟨fuel, hf⟩ := h
  obtain ⟨xs, m, -, -, hl, hxl, hel⟩ := Go.DataW.trod_array Tryd.underlying54 hf
  rw [cA54] at hsz
  obtain ⟨v0, v1, rfl⟩ : ∃ v0 v1, cs = #[v0, v1] := by
    obtain ⟨l⟩ := cs
    match l, hsz with
    | [v0, v1], _ => exact ⟨v0, v1, rfl⟩
  match xs, hxl with
  | [y0, y1], _ =>
    have g0 := hel 0 (by omega)
    have g1 := hel 1 (by omega)
    simp [c5, Value.cells] at g0 g1
    obtain ⟨n0, e0, -, w0⟩ := DataW.trod_int Tryd.underlying5 g0
    cases e0
    obtain ⟨n1, e1, -, w1⟩ := DataW.trod_int Tryd.underlying5 g1
    cases e1
    exact ⟨n0, n1, rfl, wf_u8 w0, wf_u8 w1⟩
end opens
end Go.Proofs.YtmpfgdpicbpedaaDoor
