/-
  The law DateMonths. Conditions: the package variables read as the text lays them.
-/
import Derived.Test.YtmpfgdpicbpedaaDoorTwo
namespace Go.Proofs.YtmpfgdpicbpedaaDoor
open Go.RowKit Go.Shelf
attribute [local go_sem] Oper.semAt_some

set_option maxRecDepth 100000 in
set_option maxHeartbeats 1000000 in
theorem law_mon (n k : Int) (w : World) (hT : Tabs w) (hn : -9223372036854775808 ≤ n ∧ n ≤ 9223372036854775807) (hk : -9223372036854775808 ≤ k ∧ k ≤ 9223372036854775807) : Calls Tryd.prog 6 #[.int .i64 n, .int .i64 k] w fun e w' => e = .returned (.bool true) ∧ Frm (fun _ => False) w w' := by
  obtain ⟨n0, n1⟩ := hn
  obtain ⟨k0, k1⟩ := hk
  go_enter Tryd.func6, Tryd.ntmps6
  go_wp2_with fail
  refine (sanity_any w hT).mono ?_
  rintro e w1 ⟨rfl, f1⟩
  have hT1 := hT.frm f1
  clear hT
  have f2 := f1.alloc (.cells #[.int .i64 n, .int .i64 k, .int .i64 (bits BinOp.and IntKind.i64 n 4194303), .int .i64 k, .int .i64 (bits BinOp.and IntKind.i64 n 4194303), .int .i64 (bits BinOp.and IntKind.i64 k 8191), .int .i64 (bits BinOp.and IntKind.i64 n 4194303), .int .i64 (wrap64 (-bits BinOp.and IntKind.i64 k 8191)), .int .i64 (bits BinOp.and IntKind.i64 n 4194303), .int .i64 (bits BinOp.and IntKind.i64 k 3)] 37)
  have hc := new_cells w1 #[.int .i64 n, .int .i64 k, .int .i64 (bits BinOp.and IntKind.i64 n 4194303), .int .i64 k, .int .i64 (bits BinOp.and IntKind.i64 n 4194303), .int .i64 (bits BinOp.and IntKind.i64 k 8191), .int .i64 (bits BinOp.and IntKind.i64 n 4194303), .int .i64 (wrap64 (-bits BinOp.and IntKind.i64 k 8191)), .int .i64 (bits BinOp.and IntKind.i64 n 4194303), .int .i64 (bits BinOp.and IntKind.i64 k 3)] 37 w1.heap.size rfl
  have z1 : -9223372036854775808 ≤ bits BinOp.and IntKind.i64 n 4194303 ∧ bits BinOp.and IntKind.i64 n 4194303 ≤ 9223372036854775807 := bits_within .and .i64 n 4194303
  have z2 : -9223372036854775808 ≤ bits BinOp.and IntKind.i64 k 8191 ∧ bits BinOp.and IntKind.i64 k 8191 ≤ 9223372036854775807 := bits_within .and .i64 k 8191
  have z3 := (show -9223372036854775808 ≤ wrap64 (-bits BinOp.and IntKind.i64 k 8191) ∧ wrap64 (-bits BinOp.and IntKind.i64 k 8191) ≤ 9223372036854775807 by unfold wrap64; omega)
  have z4 : -9223372036854775808 ≤ bits BinOp.and IntKind.i64 k 3 ∧ bits BinOp.and IntKind.i64 k 3 ≤ 9223372036854775807 := bits_within .and .i64 k 3
  go_wp2_with fail
  generalize bits BinOp.and IntKind.i64 n 4194303 = q1 at *
  generalize wrap64 (-bits BinOp.and IntKind.i64 k 8191) = q3 at *
  generalize bits BinOp.and IntKind.i64 k 8191 = q2 at *
  generalize bits BinOp.and IntKind.i64 k 3 = q4 at *
  obtain ⟨S, hS⟩ : ∃ S, S = w1.heap.size := ⟨_, rfl⟩
  obtain ⟨W, hW⟩ : ∃ W, W = w1.alloc (.cells #[.int .i64 n, .int .i64 k, .int .i64 q1, .int .i64 k, .int .i64 q1, .int .i64 q2, .int .i64 q1, .int .i64 q3, .int .i64 q1, .int .i64 q4] 37) := ⟨_, rfl⟩
  rw [← hS, ← hW] at hc
  rw [← hW] at f2
  rw [← hS, ← hW]
  have hTW : Tabs W := hT1.frm (by rw [hW]; exact (Frm.refl _ _).alloc _)
  clear hW hS hT1 f1
  have e0 : W.cell? ⟨S, 0, none⟩ = some (.int .i64 n) := hc 0 _ rfl
  have e1 : W.cell? ⟨S, 1, none⟩ = some (.int .i64 k) := hc 1 _ rfl
  have e2 : W.cell? ⟨S, 2, none⟩ = some (.int .i64 q1) := hc 2 _ rfl
  have e3 : W.cell? ⟨S, 3, none⟩ = some (.int .i64 k) := hc 3 _ rfl
  have e4 : W.cell? ⟨S, 4, none⟩ = some (.int .i64 q1) := hc 4 _ rfl
  have e5 : W.cell? ⟨S, 5, none⟩ = some (.int .i64 q2) := hc 5 _ rfl
  have e6 : W.cell? ⟨S, 6, none⟩ = some (.int .i64 q1) := hc 6 _ rfl
  have e7 : W.cell? ⟨S, 7, none⟩ = some (.int .i64 q3) := hc 7 _ rfl
  have e8 : W.cell? ⟨S, 8, none⟩ = some (.int .i64 q1) := hc 8 _ rfl
  have e9 : W.cell? ⟨S, 9, none⟩ = some (.int .i64 q4) := hc 9 _ rfl
  clear hc
  go_loopw [37] (fun i wr => ∃ j : Nat, i = .int .i64 j ∧ j ≤ 5 ∧ Frm (fun _ => False) W wr) (fun i _ => 5 - (intOf i).toNat)
  case atStart => exact ⟨0, rfl, by omega, Frm.refl _ _⟩
  case round =>
    obtain ⟨j, rfl, hj, hf⟩ := hrel
    have hTr := hTW.frm hf
    by_cases h5 : j = 5
    · subst h5
      have fz := f2.trans hf
      clear hf
      go_wp2_with fail
      go_ret
      exact ⟨rfl, fz⟩
    · have hj2 : j = 0 ∨ j = 1 ∨ j = 2 ∨ j = 3 ∨ j = 4 := by omega
      clear h5 hj
      rcases hj2 with rfl | rfl | rfl | rfl | rfl
      · have d0 := hf.cell e0 (fun h => h)
        have d1 := hf.cell e1 (fun h => h)
        clear e0 e1 e2 e3 e4 e5 e6 e7 e8 e9
        go_wp2_with fail
        refine (months_two n k _ (hTr.frm ((Frm.refl _ _).alloc _)) ⟨k0, k1⟩).mono ?_
        rintro e w9 ⟨rfl, u, b, rfl, h20⟩
        go_wp2_with fail
        refine (h20 _).mono ?_
        rintro e w9 ⟨rfl, rfl⟩
        go_wp2_with fail
        go_roundw
        case rel => exact ⟨1, by go_num, by omega, hf.alloc _⟩
        case measure => simp [intOf]
      · have d0 := hf.cell e2 (fun h => h)
        have d1 := hf.cell e3 (fun h => h)
        clear e0 e1 e2 e3 e4 e5 e6 e7 e8 e9
        go_wp2_with fail
        refine (months_two q1 k _ (hTr.frm ((Frm.refl _ _).alloc _)) ⟨k0, k1⟩).mono ?_
        rintro e w9 ⟨rfl, u, b, rfl, h20⟩
        go_wp2_with fail
        refine (h20 _).mono ?_
        rintro e w9 ⟨rfl, rfl⟩
        go_wp2_with fail
        go_roundw
        case rel => exact ⟨2, by go_num, by omega, hf.alloc _⟩
        case measure => simp [intOf]
      · have d0 := hf.cell e4 (fun h => h)
        have d1 := hf.cell e5 (fun h => h)
        clear e0 e1 e2 e3 e4 e5 e6 e7 e8 e9
        go_wp2_with fail
        refine (months_two q1 q2 _ (hTr.frm ((Frm.refl _ _).alloc _)) z2).mono ?_
        rintro e w9 ⟨rfl, u, b, rfl, h20⟩
        go_wp2_with fail
        refine (h20 _).mono ?_
        rintro e w9 ⟨rfl, rfl⟩
        go_wp2_with fail
        go_roundw
        case rel => exact ⟨3, by go_num, by omega, hf.alloc _⟩
        case measure => simp [intOf]
      · have d0 := hf.cell e6 (fun h => h)
        have d1 := hf.cell e7 (fun h => h)
        clear e0 e1 e2 e3 e4 e5 e6 e7 e8 e9
        go_wp2_with fail
        refine (months_two q1 q3 _ (hTr.frm ((Frm.refl _ _).alloc _)) z3).mono ?_
        rintro e w9 ⟨rfl, u, b, rfl, h20⟩
        go_wp2_with fail
        refine (h20 _).mono ?_
        rintro e w9 ⟨rfl, rfl⟩
        go_wp2_with fail
        go_roundw
        case rel => exact ⟨4, by go_num, by omega, hf.alloc _⟩
        case measure => simp [intOf]
      · have d0 := hf.cell e8 (fun h => h)
        have d1 := hf.cell e9 (fun h => h)
        clear e0 e1 e2 e3 e4 e5 e6 e7 e8 e9
        go_wp2_with fail
        refine (months_two q1 q4 _ (hTr.frm ((Frm.refl _ _).alloc _)) z4).mono ?_
        rintro e w9 ⟨rfl, u, b, rfl, h20⟩
        go_wp2_with fail
        refine (h20 _).mono ?_
        rintro e w9 ⟨rfl, rfl⟩
        go_wp2_with fail
        go_roundw
        case rel => exact ⟨5, by go_num, by omega, hf.alloc _⟩
        case measure => simp [intOf]
end Go.Proofs.YtmpfgdpicbpedaaDoor
