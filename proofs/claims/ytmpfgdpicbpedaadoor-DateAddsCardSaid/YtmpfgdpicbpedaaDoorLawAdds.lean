/-
  The law DateAdds. Printed by wip/pairs.py. Conditions: the package variables read as the text lays them.
-/
import Derived.Test.YtmpfgdpicbpedaaDoorTwo
namespace Go.Proofs.YtmpfgdpicbpedaaDoor
open Go.RowKit Go.Shelf
attribute [local go_sem] Oper.semAt_some

theorem and_21 (n : Int) : bits .and .i64 n 2097151 = n % 2097152 := by
  have h : (BitVec.ofInt 64 2097151).toNat = 2 ^ 21 - 1 := by decide
  have key : (BitVec.ofInt 64 n &&& BitVec.ofInt 64 2097151).toNat = (n % ((2 ^ 64 : Nat) : Int)).toNat % 2 ^ 21 := by
    rw [BitVec.toNat_and, BitVec.toNat_ofInt, h, Nat.and_two_pow_sub_one_eq_mod]
  show IntKind.i64.wrap ((BitVec.ofInt 64 n &&& BitVec.ofInt 64 2097151).toNat : Nat) = n % 2097152
  rw [key, IntKind.wrap_i64]
  omega

set_option maxRecDepth 100000 in
set_option maxHeartbeats 1000000 in
theorem law_adds (n k : Int) (w : World) (hT : Tabs w) (_hn : -9223372036854775808 ≤ n ∧ n ≤ 9223372036854775807) (hk : -9223372036854775808 ≤ k ∧ k ≤ 9223372036854775807) : Calls Tryd.prog 12 #[.int .i64 n, .int .i64 k] w fun e w' => e = .returned (.bool true) ∧ Frm (fun _ => False) w w' := by
  obtain ⟨k0, k1⟩ := hk
  go_enter Tryd.func12, Tryd.ntmps12
  go_wp2_with fail
  refine (sanity_any w hT).mono ?_
  rintro e w1 ⟨rfl, f1⟩
  have hT1 := hT.frm f1
  clear hT
  have f2 := f1.alloc (.cells #[.int .i64 n, .int .i64 k, .int .i64 (bits BinOp.and IntKind.i64 n 2097151), .int .i64 k, .int .i64 (bits BinOp.and IntKind.i64 n 2097151), .int .i64 (bits BinOp.and IntKind.i64 k 8191), .int .i64 (bits BinOp.and IntKind.i64 n 2097151), .int .i64 (wrap64 (-bits BinOp.and IntKind.i64 k 8191)), .int .i64 3652058, .int .i64 (bits BinOp.and IntKind.i64 k 1), .int .i64 0, .int .i64 (wrap64 (-bits BinOp.and IntKind.i64 k 1))] 37)
  have hc := new_cells w1 #[.int .i64 n, .int .i64 k, .int .i64 (bits BinOp.and IntKind.i64 n 2097151), .int .i64 k, .int .i64 (bits BinOp.and IntKind.i64 n 2097151), .int .i64 (bits BinOp.and IntKind.i64 k 8191), .int .i64 (bits BinOp.and IntKind.i64 n 2097151), .int .i64 (wrap64 (-bits BinOp.and IntKind.i64 k 8191)), .int .i64 3652058, .int .i64 (bits BinOp.and IntKind.i64 k 1), .int .i64 0, .int .i64 (wrap64 (-bits BinOp.and IntKind.i64 k 1))] 37 w1.heap.size rfl
  have z1 : 0 ≤ bits BinOp.and IntKind.i64 n 2097151 ∧ bits BinOp.and IntKind.i64 n 2097151 ≤ 2097151 := by rw [and_21]; omega
  have z2 : -9223372036854775808 ≤ bits BinOp.and IntKind.i64 k 8191 ∧ bits BinOp.and IntKind.i64 k 8191 ≤ 9223372036854775807 := bits_within .and .i64 k 8191
  have z3 : -9223372036854775808 ≤ wrap64 (-bits BinOp.and IntKind.i64 k 8191) ∧ wrap64 (-bits BinOp.and IntKind.i64 k 8191) ≤ 9223372036854775807 := by unfold wrap64; omega
  have z4 : -9223372036854775808 ≤ bits BinOp.and IntKind.i64 k 1 ∧ bits BinOp.and IntKind.i64 k 1 ≤ 9223372036854775807 := bits_within .and .i64 k 1
  have z5 : -9223372036854775808 ≤ wrap64 (-bits BinOp.and IntKind.i64 k 1) ∧ wrap64 (-bits BinOp.and IntKind.i64 k 1) ≤ 9223372036854775807 := by unfold wrap64; omega
  go_wp2_with fail
  generalize bits BinOp.and IntKind.i64 n 2097151 = q1 at *
  generalize wrap64 (-bits BinOp.and IntKind.i64 k 8191) = q3 at *
  generalize wrap64 (-bits BinOp.and IntKind.i64 k 1) = q5 at *
  generalize bits BinOp.and IntKind.i64 k 8191 = q2 at *
  generalize bits BinOp.and IntKind.i64 k 1 = q4 at *
  obtain ⟨S, hS⟩ : ∃ S, S = w1.heap.size := ⟨_, rfl⟩
  obtain ⟨W, hW⟩ : ∃ W, W = w1.alloc (.cells #[.int .i64 n, .int .i64 k, .int .i64 q1, .int .i64 k, .int .i64 q1, .int .i64 q2, .int .i64 q1, .int .i64 q3, .int .i64 3652058, .int .i64 q4, .int .i64 0, .int .i64 q5] 37) := ⟨_, rfl⟩
  rw [← hS, ← hW] at hc
  rw [← hW] at f2
  rw [← hS, ← hW]
  have hTW : Tabs W := hT1.frm (by rw [hW]; exact (Frm.refl _ _).alloc _)
  clear hW hS hT1 f1
  have e0 : W.cell? ⟨S, 0, none⟩ = some (.int .i64 n) := hc 0 _ rfl
  have e1 : W.cell? ⟨S, 1, none⟩ = some (.int .i64 k) := hc 1 _ rfl
  have e2 : W.cell? ⟨S, 2, none⟩ = some (.int .i64 q1) := hc 2 _ rfl
  have e3 : W.cell? ⟨S, 3, none⟩ = some (.int .i64 k) := hc 3 _ rfl
  have e4 : W.cell? ⟨S, 4, none⟩ = some (.int .i64 q1) := hc 4 _ rfl
  have e5 : W.cell? ⟨S, 5, none⟩ = some (.int .i64 q2) := hc 5 _ rfl
  have e6 : W.cell? ⟨S, 6, none⟩ = some (.int .i64 q1) := hc 6 _ rfl
  have e7 : W.cell? ⟨S, 7, none⟩ = some (.int .i64 q3) := hc 7 _ rfl
  have e8 : W.cell? ⟨S, 8, none⟩ = some (.int .i64 3652058) := hc 8 _ rfl
  have e9 : W.cell? ⟨S, 9, none⟩ = some (.int .i64 q4) := hc 9 _ rfl
  have e10 : W.cell? ⟨S, 10, none⟩ = some (.int .i64 0) := hc 10 _ rfl
  have e11 : W.cell? ⟨S, 11, none⟩ = some (.int .i64 q5) := hc 11 _ rfl
  clear hc
  obtain ⟨q10, q11⟩ := z1
  have wk1 : wkR q1 = .tuple #[.int .i64 (q1 % 7 + 1), .bool true] := by unfold wkR; rw [if_pos (in_iff.2 ⟨by omega, by omega⟩)]
  have wk2 : wkR (q1 + 7) = .tuple #[.int .i64 (q1 % 7 + 1), .bool true] := by unfold wkR; rw [if_pos (in_iff.2 ⟨by omega, by omega⟩), show (q1 + 7) % 7 = q1 % 7 by omega]
  have wk3 : wkR (q1 + 1) = .tuple #[.int .i64 ((q1 % 7 + 1) % 7 + 1), .bool true] := by unfold wkR; rw [if_pos (in_iff.2 ⟨by omega, by omega⟩), show (q1 + 1) % 7 = (q1 % 7 + 1) % 7 by omega]
  have hA0 : 0 ≤ q1 % 7 + 1 := by omega
  have hA1 : q1 % 7 + 1 ≤ 7 := by omega
  generalize q1 % 7 + 1 = A at wk1 wk2 wk3 hA0 hA1
  have Wk1 := Lib.hid wk1
  have Wk2 := Lib.hid wk2
  have Wk3 := Lib.hid wk3
  clear wk1 wk2 wk3
  go_loopw [50] (fun i wr => ∃ j : Nat, i = .int .i64 j ∧ j ≤ 6 ∧ Frm (fun _ => False) W wr) (fun i _ => 6 - (intOf i).toNat)
  case atStart => exact ⟨0, rfl, by omega, Frm.refl _ _⟩
  case round =>
    obtain ⟨j, rfl, hj, hf⟩ := hrel
    have hTr := hTW.frm hf
    by_cases h5 : j = 6
    · subst h5
      have fz := f2.trans hf
      clear hf z2 z3 z4 z5
      go_wp2_with fail
      refine (week_any q1 _).mono ?_
      rintro e w9 ⟨rfl, rfl⟩
      rw [Wk1.out]
      go_wp2_with fail
      refine (week_any (q1 + 7) _).mono ?_
      rintro e w9 ⟨rfl, rfl⟩
      rw [Wk2.out]
      go_wp2_with fail
      refine (week_any (q1 + 1) _).mono ?_
      rintro e w9 ⟨rfl, rfl⟩
      rw [Wk3.out]
      go_wp2_with fail
      go_ret
      exact ⟨rfl, fz⟩
    · have hj2 : j = 0 ∨ j = 1 ∨ j = 2 ∨ j = 3 ∨ j = 4 ∨ j = 5 := by omega
      clear h5 hj
      rcases hj2 with rfl | rfl | rfl | rfl | rfl | rfl
      · have d0 := hf.cell e0 (fun h => h)
        have d1 := hf.cell e1 (fun h => h)
        obtain ⟨u, b, hu⟩ := add_shape n k
        obtain ⟨u2, b2, hu2⟩ := wk_shape n
        have Hu := Lib.hid hu
        have Hu2 := Lib.hid hu2
        clear e0 e1 e2 e3 e4 e5 e6 e7 e8 e9 e10 e11 hu hu2
        go_wp2_with fail
        refine (add_any n k _ k0 k1).mono ?_
        rintro e w9 ⟨rfl, rfl⟩
        rw [Hu.out]
        go_wp2_with fail
        refine (radd_any n k _ k0 k1).mono ?_
        rintro e w9 ⟨rfl, rfl⟩
        rw [Hu.out]
        go_wp2_with fail
        refine (week_any n _).mono ?_
        rintro e w9 ⟨rfl, rfl⟩
        rw [Hu2.out]
        go_wp2_with fail
        refine (rweek_any n _).mono ?_
        rintro e w9 ⟨rfl, rfl⟩
        rw [Hu2.out]
        go_wp2_with fail
        go_roundw
        case rel => exact ⟨1, by go_num, by omega, hf.alloc _⟩
        case measure => simp [intOf]
      · have d0 := hf.cell e2 (fun h => h)
        have d1 := hf.cell e3 (fun h => h)
        obtain ⟨u, b, hu⟩ := add_shape q1 k
        obtain ⟨u2, b2, hu2⟩ := wk_shape q1
        have Hu := Lib.hid hu
        have Hu2 := Lib.hid hu2
        clear e0 e1 e2 e3 e4 e5 e6 e7 e8 e9 e10 e11 hu hu2
        go_wp2_with fail
        refine (add_any q1 k _ k0 k1).mono ?_
        rintro e w9 ⟨rfl, rfl⟩
        rw [Hu.out]
        go_wp2_with fail
        refine (radd_any q1 k _ k0 k1).mono ?_
        rintro e w9 ⟨rfl, rfl⟩
        rw [Hu.out]
        go_wp2_with fail
        refine (week_any q1 _).mono ?_
        rintro e w9 ⟨rfl, rfl⟩
        rw [Hu2.out]
        go_wp2_with fail
        refine (rweek_any q1 _).mono ?_
        rintro e w9 ⟨rfl, rfl⟩
        rw [Hu2.out]
        go_wp2_with fail
        go_roundw
        case rel => exact ⟨2, by go_num, by omega, hf.alloc _⟩
        case measure => simp [intOf]
      · have d0 := hf.cell e4 (fun h => h)
        have d1 := hf.cell e5 (fun h => h)
        obtain ⟨u, b, hu⟩ := add_shape q1 q2
        obtain ⟨u2, b2, hu2⟩ := wk_shape q1
        have Hu := Lib.hid hu
        have Hu2 := Lib.hid hu2
        clear e0 e1 e2 e3 e4 e5 e6 e7 e8 e9 e10 e11 hu hu2
        go_wp2_with fail
        refine (add_any q1 q2 _ z2.1 z2.2).mono ?_
        rintro e w9 ⟨rfl, rfl⟩
        rw [Hu.out]
        go_wp2_with fail
        refine (radd_any q1 q2 _ z2.1 z2.2).mono ?_
        rintro e w9 ⟨rfl, rfl⟩
        rw [Hu.out]
        go_wp2_with fail
        refine (week_any q1 _).mono ?_
        rintro e w9 ⟨rfl, rfl⟩
        rw [Hu2.out]
        go_wp2_with fail
        refine (rweek_any q1 _).mono ?_
        rintro e w9 ⟨rfl, rfl⟩
        rw [Hu2.out]
        go_wp2_with fail
        go_roundw
        case rel => exact ⟨3, by go_num, by omega, hf.alloc _⟩
        case measure => simp [intOf]
      · have d0 := hf.cell e6 (fun h => h)
        have d1 := hf.cell e7 (fun h => h)
        obtain ⟨u, b, hu⟩ := add_shape q1 q3
        obtain ⟨u2, b2, hu2⟩ := wk_shape q1
        have Hu := Lib.hid hu
        have Hu2 := Lib.hid hu2
        clear e0 e1 e2 e3 e4 e5 e6 e7 e8 e9 e10 e11 hu hu2
        go_wp2_with fail
        refine (add_any q1 q3 _ z3.1 z3.2).mono ?_
        rintro e w9 ⟨rfl, rfl⟩
        rw [Hu.out]
        go_wp2_with fail
        refine (radd_any q1 q3 _ z3.1 z3.2).mono ?_
        rintro e w9 ⟨rfl, rfl⟩
        rw [Hu.out]
        go_wp2_with fail
        refine (week_any q1 _).mono ?_
        rintro e w9 ⟨rfl, rfl⟩
        rw [Hu2.out]
        go_wp2_with fail
        refine (rweek_any q1 _).mono ?_
        rintro e w9 ⟨rfl, rfl⟩
        rw [Hu2.out]
        go_wp2_with fail
        go_roundw
        case rel => exact ⟨4, by go_num, by omega, hf.alloc _⟩
        case measure => simp [intOf]
      · have d0 := hf.cell e8 (fun h => h)
        have d1 := hf.cell e9 (fun h => h)
        obtain ⟨u, b, hu⟩ := add_shape 3652058 q4
        obtain ⟨u2, b2, hu2⟩ := wk_shape 3652058
        have Hu := Lib.hid hu
        have Hu2 := Lib.hid hu2
        clear e0 e1 e2 e3 e4 e5 e6 e7 e8 e9 e10 e11 hu hu2
        go_wp2_with fail
        refine (add_any 3652058 q4 _ z4.1 z4.2).mono ?_
        rintro e w9 ⟨rfl, rfl⟩
        rw [Hu.out]
        go_wp2_with fail
        refine (radd_any 3652058 q4 _ z4.1 z4.2).mono ?_
        rintro e w9 ⟨rfl, rfl⟩
        rw [Hu.out]
        go_wp2_with fail
        refine (week_any 3652058 _).mono ?_
        rintro e w9 ⟨rfl, rfl⟩
        rw [Hu2.out]
        go_wp2_with fail
        refine (rweek_any 3652058 _).mono ?_
        rintro e w9 ⟨rfl, rfl⟩
        rw [Hu2.out]
        go_wp2_with fail
        go_roundw
        case rel => exact ⟨5, by go_num, by omega, hf.alloc _⟩
        case measure => simp [intOf]
      · have d0 := hf.cell e10 (fun h => h)
        have d1 := hf.cell e11 (fun h => h)
        obtain ⟨u, b, hu⟩ := add_shape 0 q5
        obtain ⟨u2, b2, hu2⟩ := wk_shape 0
        have Hu := Lib.hid hu
        have Hu2 := Lib.hid hu2
        clear e0 e1 e2 e3 e4 e5 e6 e7 e8 e9 e10 e11 hu hu2
        go_wp2_with fail
        refine (add_any 0 q5 _ z5.1 z5.2).mono ?_
        rintro e w9 ⟨rfl, rfl⟩
        rw [Hu.out]
        go_wp2_with fail
        refine (radd_any 0 q5 _ z5.1 z5.2).mono ?_
        rintro e w9 ⟨rfl, rfl⟩
        rw [Hu.out]
        go_wp2_with fail
        refine (week_any 0 _).mono ?_
        rintro e w9 ⟨rfl, rfl⟩
        rw [Hu2.out]
        go_wp2_with fail
        refine (rweek_any 0 _).mono ?_
        rintro e w9 ⟨rfl, rfl⟩
        rw [Hu2.out]
        go_wp2_with fail
        go_roundw
        case rel => exact ⟨6, by go_num, by omega, hf.alloc _⟩
        case measure => simp [intOf]
end Go.Proofs.YtmpfgdpicbpedaaDoor
