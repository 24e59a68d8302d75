/-
  The arguments of the laws on shapes that are cases, opened. Conditions: none.
-/
import Derived.Test.YtgnjakaamgeibaaGreatDoorRowY
import Derived.Test.YtgnjakaamgeibaaGreatDoorShZ
namespace Go.Proofs.YtgnjakaamgeibaaGreatDoor
open Go.ChangeShapes Go.WideShapes Go.ChangeAt Go.RowKit
open Go.ChangeMaps (open_string shut_string)
theorem row_cells26 : Tryz.prog.cellsOf 26 = 8 := by kernel_rfl
theorem row_cells24 : Tryz.prog.cellsOf 24 = 5 := by kernel_rfl
section opens
variable {H : Type} {enc : TypeId × Value → H} {W : World} {base : Nat} {sp : Nat → Bool} {held : Bool}
set_option maxRecDepth 20000 in
theorem row_case {r : Reach} {b0 : Nat} {v : Value} {d : DataW H} {ps : List MemPlace} (hv : Value.okWide Tryz.prog W r b0 26 v) (h : DataW.Trod enc Tryz.prog W base sp held 26 v d ps) :
    ∃ (ao : Option Addr) (n cap : Nat) (ao1 : Option Addr) (n1 cap1 : Nat) (l h c : Int) (b e t : ByteArray), v = .agg #[.slice ao n cap, .slice ao1 n1 cap1, .int .i64 l, .int .i64 h, .int .i64 c, .string b, .string e, .string t] ∧ CaseAt W ao ao1 n n1 l h c b e t := by
  simp only [Value.okWide, Tryz.underlying26] at hv
  obtain ⟨cs, rfl, hsz, -⟩ := hv
  obtain ⟨fuel, hf⟩ := h
  obtain ⟨xs, k, hk, hxy, hl, hxl, hel⟩ := DataW.trod_struct Tryz.underlying26 hf
  rw [row_cells26] at hsz
  obtain ⟨v0, v1, v2, v3, v4, v5, v6, v7, rfl⟩ : ∃ v0 v1 v2 v3 v4 v5 v6 v7, cs = #[v0, v1, v2, v3, v4, v5, v6, v7] := by
    obtain ⟨l⟩ := cs
    match l, hsz with
    | [v0, v1, v2, v3, v4, v5, v6, v7], _ => exact ⟨v0, v1, v2, v3, v4, v5, v6, v7, rfl⟩
  match xs, hxl with
  | [y0, y1, y2, y3], _ =>
    have g0 := hel 0 _ rfl
    have g1 := hel 1 _ rfl
    have g2 := hel 2 _ rfl
    have g3 := hel 3 _ rfl
    simp [row_cells22, row_cells24, row_cells9, Value.cells] at g0 g1 g2 g3
    obtain ⟨ao, n, cap, l, rfl, h1, h2, h3⟩ := ints_of g0
    obtain ⟨ao1, n1, cap1, l1, rfl, h4, h5, h6⟩ := ints_of g1
    obtain ⟨xs2, k2, hk2, hxy2, hl2, hxl2, hel2⟩ := DataW.trod_struct Tryz.underlying24 g2
    match xs2, hxl2 with
    | [z0, z1, z2, z3, z4], _ =>
      have f0 := hel2 0 _ rfl
      have f1 := hel2 1 _ rfl
      have f2 := hel2 2 _ rfl
      have f3 := hel2 3 _ rfl
      have f4 := hel2 4 _ rfl
      simp [row_cells3, row_cells9] at f0 f1 f2 f3 f4
      obtain ⟨m0, e0, -, w0⟩ := DataW.trod_int Tryz.underlying3 f0
      obtain ⟨m1, e1, -, w1⟩ := DataW.trod_int Tryz.underlying3 f1
      obtain ⟨m2, e2, -, w2⟩ := DataW.trod_int Tryz.underlying3 f2
      obtain ⟨s3, e3, -, w3⟩ := DataW.trod_string Tryz.underlying9 f3
      obtain ⟨s4, e4, -, w4⟩ := DataW.trod_string Tryz.underlying9 f4
      obtain ⟨s5, e5, -, w5⟩ := DataW.trod_string Tryz.underlying9 g3
      cases e0
      cases e1
      cases e2
      cases e3
      cases e4
      cases e5
      exact ⟨ao, n, cap, ao1, n1, cap1, m0, m1, m2, s3, s4, s5, rfl, ⟨⟨l, h1, h2, h3⟩, ⟨l1, h4, h5, h6⟩, wf_i64 w0, wf_i64 w1, wf_i64 w2, Nat.le_trans w3 (by decide), Nat.le_trans w4 (by decide), Nat.le_trans w5 (by decide)⟩⟩
end opens
end Go.Proofs.YtgnjakaamgeibaaGreatDoor
