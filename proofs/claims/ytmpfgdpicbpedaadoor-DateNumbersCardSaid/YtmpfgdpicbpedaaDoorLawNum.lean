/-
  The law DateNumbers. Printed by wip/numb.py. Conditions: the package variables read as the text lays them.
-/
import Derived.Test.YtmpfgdpicbpedaaDoorTwo
namespace Go.Proofs.YtmpfgdpicbpedaaDoor
open Go.RowKit Go.Shelf
attribute [local go_sem] Oper.semAt_some

theorem years_at (j : Nat) (hj : j < 8) : ∃ y : Int, ∀ (W : World) (C : Nat), W.heap[C]? = some (.cells #[.int .i64 1, .int .i64 4, .int .i64 100, .int .i64 400, .int .i64 1900, .int .i64 2000, .int .i64 2024, .int .i64 9999] 3 (0, 0)) → W.cell? ⟨C, j, none⟩ = some (.int .i64 y) := by
  have hj2 : j = 0 ∨ j = 1 ∨ j = 2 ∨ j = 3 ∨ j = 4 ∨ j = 5 ∨ j = 6 ∨ j = 7 := by omega
  rcases hj2 with rfl | rfl | rfl | rfl | rfl | rfl | rfl | rfl <;> exact ⟨_, fun W C h => by rw [cell_of_row W C _ _ _ _ h]; rfl⟩
theorem cells3 {w : World} {x : Nat} {a b c : Value} {t : TypeId} (h : w.heap[x]? = some (.cells #[a, b, c] t (0, 0))) : w.cell? ⟨x, 0, none⟩ = some a ∧ w.cell? ⟨x, 1, none⟩ = some b ∧ w.cell? ⟨x, 2, none⟩ = some c := by
  refine ⟨?_, ?_, ?_⟩ <;> (rw [cell_of_row w x _ _ t _ h]; rfl)

set_option maxRecDepth 100000 in
set_option maxHeartbeats 2000000 in
theorem law_num (x0 x1 x2 r0 r1 r2 n : Int) (w : World) (hT : Tabs w) (_hx0 : -9223372036854775808 ≤ x0 ∧ x0 ≤ 9223372036854775807) (_hx1 : -9223372036854775808 ≤ x1 ∧ x1 ≤ 9223372036854775807) (_hx2 : -9223372036854775808 ≤ x2 ∧ x2 ≤ 9223372036854775807)
    (hr0 : 0 ≤ r0 ∧ r0 ≤ 255) (hr1 : 0 ≤ r1 ∧ r1 ≤ 255) (hr2 : 0 ≤ r2 ∧ r2 ≤ 255) (_hn : -9223372036854775808 ≤ n ∧ n ≤ 9223372036854775807) :
    Calls Tryd.prog 3 #[.agg #[.int .i64 x0, .int .i64 x1, .int .i64 x2], .agg #[.int .u8 r0, .int .u8 r1, .int .u8 r2], .int .i64 n] w fun e w' => e = .returned (.bool true) ∧ Frm (fun _ => False) w w' := by
  obtain ⟨a0, a1⟩ := hr0
  obtain ⟨a2, a3⟩ := hr1
  obtain ⟨a4, a5⟩ := hr2
  obtain ⟨j8, hj8, hj8b⟩ : ∃ j8 : Nat, r0 % 8 = j8 ∧ j8 < 8 := ⟨(r0 % 8).toNat, by omega, by omega⟩
  go_enter Tryd.func3, Tryd.ntmps3
  go_wp2_with fail
  have h0 := ((Own.start w).box #[.int .i64 x0, .int .i64 x1, .int .i64 x2] 22).box #[.int .u8 r0, .int .u8 r1, .int .u8 r2] 23
  simp only [World.size_alloc] at h0
  obtain ⟨W0, hW0⟩ : ∃ W, W = (w.alloc (.cells #[.int .i64 x0, .int .i64 x1, .int .i64 x2] 22)).alloc (.cells #[.int .u8 r0, .int .u8 r1, .int .u8 r2] 23) := ⟨_, rfl⟩
  obtain ⟨B, hB⟩ : ∃ b, b = w.heap.size + 1 := ⟨_, rfl⟩
  obtain ⟨A, hA⟩ : ∃ b, b = w.heap.size := ⟨_, rfl⟩
  rw [← hW0, ← hB, ← hA] at h0 ⊢
  clear hW0 hB hA
  refine (sanity_any W0 (hT.frm h0.frm)).mono ?_
  rintro e W1 ⟨rfl, f1⟩
  have h1 := h0.still f1
  clear f1 h0
  go_upto_region 3 with fail
  have h2 := h1.box #[.int .i64 1, .int .i64 4, .int .i64 100, .int .i64 400, .int .i64 1900, .int .i64 2000, .int .i64 2024, .int .i64 9999] 3
  obtain ⟨W2, hW2⟩ : ∃ W, W = W1.alloc (.cells #[.int .i64 1, .int .i64 4, .int .i64 100, .int .i64 400, .int .i64 1900, .int .i64 2000, .int .i64 2024, .int .i64 9999] 3) := ⟨_, rfl⟩
  obtain ⟨C, hC⟩ : ∃ b, b = W1.heap.size := ⟨_, rfl⟩
  rw [← hW2, ← hC] at h2 ⊢
  clear hW2 hC h1
  obtain ⟨q0, q1, q2⟩ := cells3 (h2.obj (x := A) (cs := #[.int .i64 x0, .int .i64 x1, .int .i64 x2]) (t := 22) 0 rfl)
  obtain ⟨s0, s1, s2⟩ := cells3 (h2.obj (x := B) (cs := #[.int .u8 r0, .int .u8 r1, .int .u8 r2]) (t := 23) 1 rfl)
  obtain ⟨YR, hYR⟩ := years_at j8 hj8b
  have hY := hYR W2 C (h2.obj (x := C) 2 rfl)
  have HYR := Lib.hid hYR
  clear hYR
  have m14 : 0 ≤ r1 % 14 := by omega
  have m33 : 0 ≤ r2 % 33 := by omega
  have m12 : 0 ≤ r1 % 12 := by omega
  have m6 : 0 ≤ r2 % 6 := by omega
  have nj : ¬ (8 : Int) ≤ (j8 : Int) := by omega
  have w14 : IntKind.i64.wrap (r1 % 14) = r1 % 14 := by rw [IntWalk.i64_left]; exact IntWalk.wrap64_in _ (by omega)
  have w33 : IntKind.i64.wrap (r2 % 33) = r2 % 33 := by rw [IntWalk.i64_left]; exact IntWalk.wrap64_in _ (by omega)
  have w12 : IntKind.i64.wrap (r1 % 12) = r1 % 12 := by rw [IntWalk.i64_left]; exact IntWalk.wrap64_in _ (by omega)
  have w6 : IntKind.i64.wrap (r2 % 6) = r2 % 6 := by rw [IntWalk.i64_left]; exact IntWalk.wrap64_in _ (by omega)
  have w12p : IntKind.i64.wrap (1 + r1 % 12) = 1 + r1 % 12 := by rw [IntWalk.i64_left]; exact IntWalk.wrap64_in _ (by omega)
  have w6p : IntKind.i64.wrap (27 + r2 % 6) = 27 + r2 % 6 := by rw [IntWalk.i64_left]; exact IntWalk.wrap64_in _ (by omega)
  have t8 : r0.tmod 8 = (j8 : Int) := by rw [Int.tmod_eq_emod_of_nonneg a0]; exact hj8
  have t14 : r1.tmod 14 = r1 % 14 := Int.tmod_eq_emod_of_nonneg a2
  have t33 : r2.tmod 33 = r2 % 33 := Int.tmod_eq_emod_of_nonneg a4
  have t12 : r1.tmod 12 = r1 % 12 := Int.tmod_eq_emod_of_nonneg a2
  have t6 : r2.tmod 6 = r2 % 6 := Int.tmod_eq_emod_of_nonneg a4
  obtain ⟨MM, hMM⟩ : ∃ m, IntKind.i64.wrap (1 + bits BinOp.and IntKind.i64 x0 8191) = m := ⟨_, rfl⟩
  refine wp_region_held_drew (S := fun w' => w'.cell? ⟨A, 0, none⟩ = some (.int .i64 x0) ∧ w'.cell? ⟨A, 1, none⟩ = some (.int .i64 x1) ∧ w'.cell? ⟨A, 2, none⟩ = some (.int .i64 x2) ∧ w'.cell? ⟨B, 0, none⟩ = some (.int .u8 r0) ∧ w'.cell? ⟨B, 1, none⟩ = some (.int .u8 r1) ∧ w'.cell? ⟨B, 2, none⟩ = some (.int .u8 r2) ∧ w'.cell? ⟨C, j8, none⟩ = some (.int .i64 YR)) (by kernel_rfl) ⟨q0, q1, q2, s0, s1, s2, hY⟩ (fun hHeld => ?_)
  obtain ⟨W3, hW3⟩ : ∃ w', w' = W2.drew := ⟨_, rfl⟩
  have h3 := h2.drew
  rw [← hW3] at h3 hHeld ⊢
  clear hW3 h2 q0 q1 q2 s0 s1 s2 hY
  refine wpAnyH_take (i := 0) (oi := ⟨some 27, _, _, _, _, _⟩) (v := (.agg #[.int .i64 x0, .int .i64 x1, .int .i64 x2])) rfl (by kernel_rfl) (by kernel_rfl) (by kernel_rfl) (fun _ _ _ h => h) (.inl ⟨by rfl, fun w hw => by dsimp only at hw; go_simp⟩) hHeld ?_
  simp only [Act.put, List.setIfInBounds_toArray, List.set_cons_zero, List.set_cons_succ]
  refine wpAnyH_take (i := 1) (oi := ⟨some 28, _, _, _, _, _⟩) (v := (.slice (some ⟨C, 0, none⟩) 8 8)) rfl (by kernel_rfl) (by kernel_rfl) (by kernel_rfl) (fun _ _ _ h => h) (.inl ⟨by rfl, fun w hw => by dsimp only at hw; go_simp⟩) hHeld ?_
  simp only [Act.put, List.setIfInBounds_toArray, List.set_cons_zero, List.set_cons_succ]
  refine wpAnyH_take (i := 2) (oi := ⟨some 29, _, _, _, _, _⟩) (v := (.pointer (some ⟨B, 0, none⟩))) rfl (by kernel_rfl) (by kernel_rfl) (by kernel_rfl) (fun _ _ _ h => h) (.inl ⟨by rfl, fun w hw => by dsimp only at hw; go_simp⟩) hHeld ?_
  simp only [Act.put, List.setIfInBounds_toArray, List.set_cons_zero, List.set_cons_succ]
  refine wpAnyH_take (i := 3) (oi := ⟨some 30, _, _, _, _, _⟩) (v := (.int .u8 r0)) rfl (by kernel_rfl) (by kernel_rfl) (by kernel_rfl) (fun _ _ _ h => h) (.inl ⟨by rfl, fun w hw => by dsimp only at hw; go_simp⟩) hHeld ?_
  simp only [Act.put, List.setIfInBounds_toArray, List.set_cons_zero, List.set_cons_succ]
  refine wpAnyH_take (i := 4) (oi := ⟨some 31, _, _, _, _, _⟩) (v := (.int .u8 j8)) rfl (by kernel_rfl) (by kernel_rfl) (by kernel_rfl) (fun _ _ _ h => h) (.inl ⟨by rfl, fun w hw => by dsimp only at hw; go_simp⟩) hHeld ?_
  simp only [Act.put, List.setIfInBounds_toArray, List.set_cons_zero, List.set_cons_succ]
  refine wpAnyH_take (i := 5) (oi := ⟨some 32, _, _, _, _, _⟩) (v := (.pointer (some ⟨C, j8, none⟩))) rfl (by kernel_rfl) (by kernel_rfl) (by kernel_rfl) (fun _ _ _ h => h) (.inl ⟨by rfl, fun w hw => by dsimp only at hw; go_simp⟩) hHeld ?_
  simp only [Act.put, List.setIfInBounds_toArray, List.set_cons_zero, List.set_cons_succ]
  refine wpAnyH_take (i := 6) (oi := ⟨some 33, _, _, _, _, _⟩) (v := (.int .i64 YR)) rfl (by kernel_rfl) (by kernel_rfl) (by kernel_rfl) (fun _ _ _ h => h) (.inl ⟨by rfl, fun w hw => by dsimp only at hw; go_simp⟩) hHeld ?_
  simp only [Act.put, List.setIfInBounds_toArray, List.set_cons_zero, List.set_cons_succ]
  refine wpAnyH_take (i := 7) (oi := ⟨some 34, _, _, _, _, _⟩) (v := (.pointer (some ⟨B, 1, none⟩))) rfl (by kernel_rfl) (by kernel_rfl) (by kernel_rfl) (fun _ _ _ h => h) (.inl ⟨by rfl, fun w hw => by dsimp only at hw; go_simp⟩) hHeld ?_
  simp only [Act.put, List.setIfInBounds_toArray, List.set_cons_zero, List.set_cons_succ]
  refine wpAnyH_take (i := 8) (oi := ⟨some 35, _, _, _, _, _⟩) (v := (.int .u8 r1)) rfl (by kernel_rfl) (by kernel_rfl) (by kernel_rfl) (fun _ _ _ h => h) (.inl ⟨by rfl, fun w hw => by dsimp only at hw; go_simp⟩) hHeld ?_
  simp only [Act.put, List.setIfInBounds_toArray, List.set_cons_zero, List.set_cons_succ]
  refine wpAnyH_take (i := 9) (oi := ⟨some 36, _, _, _, _, _⟩) (v := (.int .u8 (r1 % 14))) rfl (by kernel_rfl) (by kernel_rfl) (by kernel_rfl) (fun _ _ _ h => h) (.inl ⟨by rfl, fun w hw => by dsimp only at hw; go_simp⟩) hHeld ?_
  simp only [Act.put, List.setIfInBounds_toArray, List.set_cons_zero, List.set_cons_succ]
  refine wpAnyH_take (i := 10) (oi := ⟨some 37, _, _, _, _, _⟩) (v := (.int .i64 (r1 % 14))) rfl (by kernel_rfl) (by kernel_rfl) (by kernel_rfl) (fun _ _ _ h => h) (.inl ⟨by rfl, fun w hw => by dsimp only at hw; go_simp⟩) hHeld ?_
  simp only [Act.put, List.setIfInBounds_toArray, List.set_cons_zero, List.set_cons_succ]
  refine wpAnyH_take (i := 11) (oi := ⟨some 38, _, _, _, _, _⟩) (v := (.pointer (some ⟨B, 2, none⟩))) rfl (by kernel_rfl) (by kernel_rfl) (by kernel_rfl) (fun _ _ _ h => h) (.inl ⟨by rfl, fun w hw => by dsimp only at hw; go_simp⟩) hHeld ?_
  simp only [Act.put, List.setIfInBounds_toArray, List.set_cons_zero, List.set_cons_succ]
  refine wpAnyH_take (i := 12) (oi := ⟨some 39, _, _, _, _, _⟩) (v := (.int .u8 r2)) rfl (by kernel_rfl) (by kernel_rfl) (by kernel_rfl) (fun _ _ _ h => h) (.inl ⟨by rfl, fun w hw => by dsimp only at hw; go_simp⟩) hHeld ?_
  simp only [Act.put, List.setIfInBounds_toArray, List.set_cons_zero, List.set_cons_succ]
  refine wpAnyH_take (i := 13) (oi := ⟨some 40, _, _, _, _, _⟩) (v := (.int .u8 (r2 % 33))) rfl (by kernel_rfl) (by kernel_rfl) (by kernel_rfl) (fun _ _ _ h => h) (.inl ⟨by rfl, fun w hw => by dsimp only at hw; go_simp⟩) hHeld ?_
  simp only [Act.put, List.setIfInBounds_toArray, List.set_cons_zero, List.set_cons_succ]
  refine wpAnyH_take (i := 14) (oi := ⟨some 41, _, _, _, _, _⟩) (v := (.int .i64 (r2 % 33))) rfl (by kernel_rfl) (by kernel_rfl) (by kernel_rfl) (fun _ _ _ h => h) (.inl ⟨by rfl, fun w hw => by dsimp only at hw; go_simp⟩) hHeld ?_
  simp only [Act.put, List.setIfInBounds_toArray, List.set_cons_zero, List.set_cons_succ]
  refine wpAnyH_take (i := 15) (oi := ⟨some 42, _, _, _, _, _⟩) (v := (.agg #[.int .i64 YR, .int .i64 (r1 % 14), .int .i64 (r2 % 33)])) rfl (by kernel_rfl) (by kernel_rfl) (by kernel_rfl) (fun _ _ _ h => h) (.inl ⟨by rfl, fun w hw => by dsimp only at hw; go_simp⟩) hHeld ?_
  simp only [Act.put, List.setIfInBounds_toArray, List.set_cons_zero, List.set_cons_succ]
  refine wpAnyH_take (i := 16) (oi := ⟨some 43, _, _, _, _, _⟩) (v := (.pointer (some ⟨A, 0, none⟩))) rfl (by kernel_rfl) (by kernel_rfl) (by kernel_rfl) (fun _ _ _ h => h) (.inl ⟨by rfl, fun w hw => by dsimp only at hw; go_simp⟩) hHeld ?_
  simp only [Act.put, List.setIfInBounds_toArray, List.set_cons_zero, List.set_cons_succ]
  refine wpAnyH_take (i := 17) (oi := ⟨some 44, _, _, _, _, _⟩) (v := (.int .i64 x0)) rfl (by kernel_rfl) (by kernel_rfl) (by kernel_rfl) (fun _ _ _ h => h) (.inl ⟨by rfl, fun w hw => by dsimp only at hw; go_simp⟩) hHeld ?_
  simp only [Act.put, List.setIfInBounds_toArray, List.set_cons_zero, List.set_cons_succ]
  refine wpAnyH_take (i := 18) (oi := ⟨some 45, _, _, _, _, _⟩) (v := (.int .i64 (bits BinOp.and IntKind.i64 x0 8191))) rfl (by kernel_rfl) (by kernel_rfl) (by kernel_rfl) (fun _ _ _ h => h) (.inl ⟨by rfl, fun w hw => by dsimp only at hw; go_simp⟩) hHeld ?_
  simp only [Act.put, List.setIfInBounds_toArray, List.set_cons_zero, List.set_cons_succ]
  refine wpAnyH_take (i := 19) (oi := ⟨some 46, _, _, _, _, _⟩) (v := (.int .i64 MM)) rfl (by kernel_rfl) (by kernel_rfl) (by kernel_rfl) (fun _ _ _ h => h) (.inl ⟨by rfl, fun w hw => by dsimp only at hw; go_simp⟩) hHeld ?_
  simp only [Act.put, List.setIfInBounds_toArray, List.set_cons_zero, List.set_cons_succ]
  refine wpAnyH_take (i := 20) (oi := ⟨some 47, _, _, _, _, _⟩) (v := (.pointer (some ⟨B, 1, none⟩))) rfl (by kernel_rfl) (by kernel_rfl) (by kernel_rfl) (fun _ _ _ h => h) (.inl ⟨by rfl, fun w hw => by dsimp only at hw; go_simp⟩) hHeld ?_
  simp only [Act.put, List.setIfInBounds_toArray, List.set_cons_zero, List.set_cons_succ]
  refine wpAnyH_take (i := 21) (oi := ⟨some 48, _, _, _, _, _⟩) (v := (.int .u8 r1)) rfl (by kernel_rfl) (by kernel_rfl) (by kernel_rfl) (fun _ _ _ h => h) (.inl ⟨by rfl, fun w hw => by dsimp only at hw; go_simp⟩) hHeld ?_
  simp only [Act.put, List.setIfInBounds_toArray, List.set_cons_zero, List.set_cons_succ]
  refine wpAnyH_take (i := 22) (oi := ⟨some 49, _, _, _, _, _⟩) (v := (.int .u8 (r1 % 12))) rfl (by kernel_rfl) (by kernel_rfl) (by kernel_rfl) (fun _ _ _ h => h) (.inl ⟨by rfl, fun w hw => by dsimp only at hw; go_simp⟩) hHeld ?_
  simp only [Act.put, List.setIfInBounds_toArray, List.set_cons_zero, List.set_cons_succ]
  refine wpAnyH_take (i := 23) (oi := ⟨some 50, _, _, _, _, _⟩) (v := (.int .i64 (r1 % 12))) rfl (by kernel_rfl) (by kernel_rfl) (by kernel_rfl) (fun _ _ _ h => h) (.inl ⟨by rfl, fun w hw => by dsimp only at hw; go_simp⟩) hHeld ?_
  simp only [Act.put, List.setIfInBounds_toArray, List.set_cons_zero, List.set_cons_succ]
  refine wpAnyH_take (i := 24) (oi := ⟨some 51, _, _, _, _, _⟩) (v := (.int .i64 (1 + r1 % 12))) rfl (by kernel_rfl) (by kernel_rfl) (by kernel_rfl) (fun _ _ _ h => h) (.inl ⟨by rfl, fun w hw => by dsimp only at hw; go_simp⟩) hHeld ?_
  simp only [Act.put, List.setIfInBounds_toArray, List.set_cons_zero, List.set_cons_succ]
  refine wpAnyH_take (i := 25) (oi := ⟨some 52, _, _, _, _, _⟩) (v := (.pointer (some ⟨B, 2, none⟩))) rfl (by kernel_rfl) (by kernel_rfl) (by kernel_rfl) (fun _ _ _ h => h) (.inl ⟨by rfl, fun w hw => by dsimp only at hw; go_simp⟩) hHeld ?_
  simp only [Act.put, List.setIfInBounds_toArray, List.set_cons_zero, List.set_cons_succ]
  refine wpAnyH_take (i := 26) (oi := ⟨some 53, _, _, _, _, _⟩) (v := (.int .u8 r2)) rfl (by kernel_rfl) (by kernel_rfl) (by kernel_rfl) (fun _ _ _ h => h) (.inl ⟨by rfl, fun w hw => by dsimp only at hw; go_simp⟩) hHeld ?_
  simp only [Act.put, List.setIfInBounds_toArray, List.set_cons_zero, List.set_cons_succ]
  refine wpAnyH_take (i := 27) (oi := ⟨some 54, _, _, _, _, _⟩) (v := (.int .u8 (r2 % 6))) rfl (by kernel_rfl) (by kernel_rfl) (by kernel_rfl) (fun _ _ _ h => h) (.inl ⟨by rfl, fun w hw => by dsimp only at hw; go_simp⟩) hHeld ?_
  simp only [Act.put, List.setIfInBounds_toArray, List.set_cons_zero, List.set_cons_succ]
  refine wpAnyH_take (i := 28) (oi := ⟨some 55, _, _, _, _, _⟩) (v := (.int .i64 (r2 % 6))) rfl (by kernel_rfl) (by kernel_rfl) (by kernel_rfl) (fun _ _ _ h => h) (.inl ⟨by rfl, fun w hw => by dsimp only at hw; go_simp⟩) hHeld ?_
  simp only [Act.put, List.setIfInBounds_toArray, List.set_cons_zero, List.set_cons_succ]
  refine wpAnyH_take (i := 29) (oi := ⟨some 56, _, _, _, _, _⟩) (v := (.int .i64 (27 + r2 % 6))) rfl (by kernel_rfl) (by kernel_rfl) (by kernel_rfl) (fun _ _ _ h => h) (.inl ⟨by rfl, fun w hw => by dsimp only at hw; go_simp⟩) hHeld ?_
  simp only [Act.put, List.setIfInBounds_toArray, List.set_cons_zero, List.set_cons_succ]
  refine wpAnyH_take (i := 30) (oi := ⟨some 57, _, _, _, _, _⟩) (v := (.agg #[.int .i64 MM, .int .i64 (1 + r1 % 12), .int .i64 (27 + r2 % 6)])) rfl (by kernel_rfl) (by kernel_rfl) (by kernel_rfl) (fun _ _ _ h => h) (.inl ⟨by rfl, fun w hw => by dsimp only at hw; go_simp⟩) hHeld ?_
  simp only [Act.put, List.setIfInBounds_toArray, List.set_cons_zero, List.set_cons_succ]
  refine wpAnyH_take (i := 33) (oi := ⟨some 60, _, _, _, _, _⟩) (v := (.int .i64 0)) rfl (by kernel_rfl) (by kernel_rfl) (by kernel_rfl) (fun _ _ _ h => h) (.inl ⟨by rfl, fun w hw => by dsimp only at hw; go_simp⟩) hHeld ?_
  simp only [Act.put, List.setIfInBounds_toArray, List.set_cons_zero, List.set_cons_succ]
  refine wpAnyH_ready (rs := [31]) (by kernel_rfl) (by simp) ?_
  refine AllReadyH.cons (o := ⟨some 58, _, _, _, _, _⟩) rfl (fun K hK => ?_) AllReadyH.nil
  go_simp
  have h4 := h3.box #[.int .i64 x0, .int .i64 x1, .int .i64 x2, .int .i64 YR, .int .i64 (r1 % 14), .int .i64 (r2 % 33), .int .i64 MM, .int .i64 (1 + r1 % 12), .int .i64 (27 + r2 % 6)] 22
  obtain ⟨W4, hW4⟩ : ∃ W, W = W3.alloc (.cells #[.int .i64 x0, .int .i64 x1, .int .i64 x2, .int .i64 YR, .int .i64 (r1 % 14), .int .i64 (r2 % 33), .int .i64 MM, .int .i64 (1 + r1 % 12), .int .i64 (27 + r2 % 6)] 22) := ⟨_, rfl⟩
  obtain ⟨E, hE⟩ : ∃ b, b = W3.heap.size := ⟨_, rfl⟩
  rw [← hW4, ← hE] at h4 ⊢
  clear hW4 hE h3
  obtain ⟨q0, q1, q2⟩ := cells3 (h4.obj (x := A) (cs := #[.int .i64 x0, .int .i64 x1, .int .i64 x2]) (t := 22) 0 rfl)
  obtain ⟨s0, s1, s2⟩ := cells3 (h4.obj (x := B) (cs := #[.int .u8 r0, .int .u8 r1, .int .u8 r2]) (t := 23) 1 rfl)
  have hO := h4.obj (x := E) (cs := #[.int .i64 x0, .int .i64 x1, .int .i64 x2, .int .i64 YR, .int .i64 (r1 % 14), .int .i64 (r2 % 33), .int .i64 MM, .int .i64 (1 + r1 % 12), .int .i64 (27 + r2 % 6)]) (t := 22) 3 rfl
  refine hK.out _ _ ⟨q0, q1, q2, s0, s1, s2, HYR.out W4 C (h4.obj (x := C) 2 rfl)⟩ (fun hHeld => ?_)
  clear hK K q0 q1 q2 s2 HYR
  refine wpAnyH_take (i := 32) (oi := ⟨some 59, _, _, _, _, _⟩) (v := (.int .i64 3)) rfl (by kernel_rfl) (by kernel_rfl) (by kernel_rfl) (fun _ _ _ h => h) (.inl ⟨by rfl, fun w hw => by dsimp only at hw; go_simp⟩) hHeld ?_
  simp only [Act.put, List.setIfInBounds_toArray, List.set_cons_zero, List.set_cons_succ]
  refine wpAnyH_done (by kernel_rfl) ?_ _
  clear hHeld t8 t14 t33 t12 t6 w14 w33 w12 w6 w12p w6p nj
  have e0 : W4.cell? ⟨E, 0, none⟩ = some (.int .i64 x0) := by rw [cell_of_row W4 E _ _ _ _ hO]; rfl
  have e1 : W4.cell? ⟨E, 1, none⟩ = some (.int .i64 x1) := by rw [cell_of_row W4 E _ _ _ _ hO]; rfl
  have e2 : W4.cell? ⟨E, 2, none⟩ = some (.int .i64 x2) := by rw [cell_of_row W4 E _ _ _ _ hO]; rfl
  have e3 : W4.cell? ⟨E, 3, none⟩ = some (.int .i64 YR) := by rw [cell_of_row W4 E _ _ _ _ hO]; rfl
  have e4 : W4.cell? ⟨E, 4, none⟩ = some (.int .i64 (r1 % 14)) := by rw [cell_of_row W4 E _ _ _ _ hO]; rfl
  have e5 : W4.cell? ⟨E, 5, none⟩ = some (.int .i64 (r2 % 33)) := by rw [cell_of_row W4 E _ _ _ _ hO]; rfl
  have e6 : W4.cell? ⟨E, 6, none⟩ = some (.int .i64 MM) := by rw [cell_of_row W4 E _ _ _ _ hO]; rfl
  have e7 : W4.cell? ⟨E, 7, none⟩ = some (.int .i64 (1 + r1 % 12)) := by rw [cell_of_row W4 E _ _ _ _ hO]; rfl
  have e8 : W4.cell? ⟨E, 8, none⟩ = some (.int .i64 (27 + r2 % 6)) := by rw [cell_of_row W4 E _ _ _ _ hO]; rfl
  clear hO
  have f4 := h4.frm
  have hT4 := hT.frm f4
  clear h4 hMM
  go_wp2_with fail
  go_loopw [60] (fun i wr => ∃ j : Nat, i = .int .i64 j ∧ j ≤ 3 ∧ Frm (fun _ => False) W4 wr) (fun i _ => 3 - (intOf i).toNat)
  case atStart => exact ⟨0, rfl, by omega, Frm.refl _ _⟩
  case round =>
    obtain ⟨j, rfl, hj, hf⟩ := hrel
    have hTr := hT4.frm hf
    by_cases h5 : j = 3
    · subst h5
      have d0 := hf.cell s0 (fun h => h)
      have d1 := hf.cell s1 (fun h => h)
      have fz := f4.trans hf
      clear hf e0 e1 e2 e3 e4 e5 e6 e7 e8 s0 s1 hT4 f4 m14 m33 m12 m6
      have hc := new_cells wr #[.int .i64 n, .int .i64 (bits BinOp.and IntKind.i64 n 4194303), .int .i64 (3652058 - r0), .int .i64 r1] 3 wr.heap.size rfl
      go_wp2_with fail
      obtain ⟨S, hS⟩ : ∃ S, S = wr.heap.size := ⟨_, rfl⟩
      obtain ⟨W, hW⟩ : ∃ W, W = wr.alloc (.cells #[.int .i64 n, .int .i64 (bits BinOp.and IntKind.i64 n 4194303), .int .i64 (3652058 - r0), .int .i64 r1] 3) := ⟨_, rfl⟩
      have hTW : Tabs W := hTr.frm (by rw [hW]; exact (Frm.refl _ _).alloc _)
      have fW : Frm (fun _ => False) w W := by rw [hW]; exact fz.alloc _
      rw [← hS, ← hW] at hc
      rw [← hS, ← hW]
      clear hW hS hTr fz d0 d1
      have e0 : W.cell? ⟨S, 0, none⟩ = some (.int .i64 n) := hc 0 _ rfl
      have e1 : W.cell? ⟨S, 1, none⟩ = some (.int .i64 (bits BinOp.and IntKind.i64 n 4194303)) := hc 1 _ rfl
      have e2 : W.cell? ⟨S, 2, none⟩ = some (.int .i64 (3652058 - r0)) := hc 2 _ rfl
      have e3 : W.cell? ⟨S, 3, none⟩ = some (.int .i64 r1) := hc 3 _ rfl
      clear hc
      go_loopw [116] (fun i wr => ∃ j : Nat, i = .int .i64 j ∧ j ≤ 4 ∧ wr = W) (fun i _ => 4 - (intOf i).toNat)
      case atStart => exact ⟨0, rfl, by omega, rfl⟩
      case round =>
        obtain ⟨j, rfl, hj, rfl⟩ := hrel
        by_cases h5 : j = 4
        · subst h5
          clear e0 e1 e2 e3
          go_wp2_with fail
          go_ret
          exact ⟨rfl, fW⟩
        · have hj2 : j = 0 ∨ j = 1 ∨ j = 2 ∨ j = 3 := by omega
          clear h5 hj
          rcases hj2 with rfl | rfl | rfl | rfl
          · go_wp2_with fail
            refine (civil_two n _ hTW).mono ?_
            rintro e w9 ⟨rfl, u, v, t, b, rfl, h2⟩
            go_wp2_with fail
            refine (h2 _).mono ?_
            rintro e w9 ⟨rfl, rfl⟩
            go_wp2_with fail
            go_roundw
            case rel => exact ⟨1, by go_num, by omega, trivial⟩
            case measure => simp [intOf]
          · go_wp2_with fail
            refine (civil_two (bits BinOp.and IntKind.i64 n 4194303) _ hTW).mono ?_
            rintro e w9 ⟨rfl, u, v, t, b, rfl, h2⟩
            go_wp2_with fail
            refine (h2 _).mono ?_
            rintro e w9 ⟨rfl, rfl⟩
            go_wp2_with fail
            go_roundw
            case rel => exact ⟨2, by go_num, by omega, trivial⟩
            case measure => simp [intOf]
          · go_wp2_with fail
            refine (civil_two (3652058 - r0) _ hTW).mono ?_
            rintro e w9 ⟨rfl, u, v, t, b, rfl, h2⟩
            go_wp2_with fail
            refine (h2 _).mono ?_
            rintro e w9 ⟨rfl, rfl⟩
            go_wp2_with fail
            go_roundw
            case rel => exact ⟨3, by go_num, by omega, trivial⟩
            case measure => simp [intOf]
          · go_wp2_with fail
            refine (civil_two r1 _ hTW).mono ?_
            rintro e w9 ⟨rfl, u, v, t, b, rfl, h2⟩
            go_wp2_with fail
            refine (h2 _).mono ?_
            rintro e w9 ⟨rfl, rfl⟩
            go_wp2_with fail
            go_roundw
            case rel => exact ⟨4, by go_num, by omega, trivial⟩
            case measure => simp [intOf]
    · have hj2 : j = 0 ∨ j = 1 ∨ j = 2 := by omega
      clear h5 hj s0 s1
      rcases hj2 with rfl | rfl | rfl
      · have d0 := hf.cell e0 (fun h => h)
        have d1 := hf.cell e1 (fun h => h)
        have d2 := hf.cell e2 (fun h => h)
        obtain ⟨u, b, hu, hv⟩ := num_shape x0 x1 x2
        have Hu := Lib.hid hu
        have Hv := Lib.hid hv
        clear e0 e1 e2 e3 e4 e5 e6 e7 e8 hu hv
        go_wp2_with fail
        refine (num_any x0 x1 x2 _ (hTr.frm ((Frm.refl _ _).alloc _))).mono ?_
        rintro e w9 ⟨rfl, rfl⟩
        rw [Hu.out]
        go_wp2_with fail
        refine (rnum_any x0 x1 x2 _).mono ?_
        rintro e w9 ⟨rfl, rfl⟩
        rw [Hu.out]
        go_wp2_with fail
        refine (valid_any x0 x1 x2 _ (hTr.frm ((Frm.refl _ _).alloc _))).mono ?_
        rintro e w9 ⟨rfl, rfl⟩
        rw [Hv.out]
        go_wp2_with fail
        go_roundw
        case rel => exact ⟨1, by go_num, by omega, hf.alloc _⟩
        case measure => simp [intOf]
      · have d0 := hf.cell e3 (fun h => h)
        have d1 := hf.cell e4 (fun h => h)
        have d2 := hf.cell e5 (fun h => h)
        obtain ⟨u, b, hu, hv⟩ := num_shape YR (r1 % 14) (r2 % 33)
        have Hu := Lib.hid hu
        have Hv := Lib.hid hv
        clear e0 e1 e2 e3 e4 e5 e6 e7 e8 hu hv
        go_wp2_with fail
        refine (num_any YR (r1 % 14) (r2 % 33) _ (hTr.frm ((Frm.refl _ _).alloc _))).mono ?_
        rintro e w9 ⟨rfl, rfl⟩
        rw [Hu.out]
        go_wp2_with fail
        refine (rnum_any YR (r1 % 14) (r2 % 33) _).mono ?_
        rintro e w9 ⟨rfl, rfl⟩
        rw [Hu.out]
        go_wp2_with fail
        refine (valid_any YR (r1 % 14) (r2 % 33) _ (hTr.frm ((Frm.refl _ _).alloc _))).mono ?_
        rintro e w9 ⟨rfl, rfl⟩
        rw [Hv.out]
        go_wp2_with fail
        go_roundw
        case rel => exact ⟨2, by go_num, by omega, hf.alloc _⟩
        case measure => simp [intOf]
      · have d0 := hf.cell e6 (fun h => h)
        have d1 := hf.cell e7 (fun h => h)
        have d2 := hf.cell e8 (fun h => h)
        obtain ⟨u, b, hu, hv⟩ := num_shape MM (1 + r1 % 12) (27 + r2 % 6)
        have Hu := Lib.hid hu
        have Hv := Lib.hid hv
        clear e0 e1 e2 e3 e4 e5 e6 e7 e8 hu hv
        go_wp2_with fail
        refine (num_any MM (1 + r1 % 12) (27 + r2 % 6) _ (hTr.frm ((Frm.refl _ _).alloc _))).mono ?_
        rintro e w9 ⟨rfl, rfl⟩
        rw [Hu.out]
        go_wp2_with fail
        refine (rnum_any MM (1 + r1 % 12) (27 + r2 % 6) _).mono ?_
        rintro e w9 ⟨rfl, rfl⟩
        rw [Hu.out]
        go_wp2_with fail
        refine (valid_any MM (1 + r1 % 12) (27 + r2 % 6) _ (hTr.frm ((Frm.refl _ _).alloc _))).mono ?_
        rintro e w9 ⟨rfl, rfl⟩
        rw [Hv.out]
        go_wp2_with fail
        go_roundw
        case rel => exact ⟨3, by go_num, by omega, hf.alloc _⟩
        case measure => simp [intOf]
end Go.Proofs.YtmpfgdpicbpedaaDoor
