/-
  The law DiskLimits: what its code does. Conditions: none beyond the arguments.
-/
import Derived.Test.YtehdjajeonemoaaLawReads
import Derived.Deep.OwnRows
namespace Go.Proofs.Ytehdjajeonemoaa
open Go.RowKit

theorem own_rwrite {w0 w : World} {L : List Thing} (h : Own w0 L w) {m : Nat} {D : Dk} {n : Nat} (i : Nat) (hi : L[i]? = some (refT m D n)) (off : Int) (s : ByteArray) (hn : n + s.size ≤ 1099511627776) (ho : -9223372036854775808 ≤ off) :
    Calls Try.prog 38 #[.pointer (some ⟨m, 0, none⟩), .int .i64 off, .string s] w fun e w' => e = .returned (.int .i64 (D.write off s.data.toList).1) ∧ Own w0 (L.set i (refT m (D.write off s.data.toList).2 (n + s.size + 1))) w' := by
  obtain ⟨F, ⟨p, lf, hd, hok, hfit, l1, l2, rfl⟩, _, ht⟩ := h.turn hi
  refine (rwrite_any m p lf D n off s w hd hok hfit hn (by omega) (by omega) ho).mono ?_
  rintro e w' ⟨rfl, p2, lf2, hd2, l3, l4, hf, hs⟩
  have hfw := hfit.write off s.data.toList
  rw [size_toList] at hfw
  exact ⟨rfl, ht _ _ w' ⟨p2, lf2, hd2, Dk.ok_write hok _ _, hfw, by omega, by omega, rfl⟩ hf hs⟩

theorem wrap_id {n : Int} (h1 : -9223372036854775808 ≤ n) (h2 : n ≤ 9223372036854775807) : IntKind.i64.wrap n = n := by
  exact IntWalk.i64_in _ ⟨h1, h2⟩

theorem run_zeros (n : Nat) (hn : n ≤ 16777216) : ∀ w : World, (Instr.makeSlice 56 (.int .i64 (n : Int)) (.int .i64 (n : Int))).run Try.prog w = .ok (.slice (some ⟨w.heap.size, 0, none⟩) n n) (w.alloc (.cells (madeCells #[.int .u8 0] n) 5)) := by
  intro w
  obtain ⟨i0, hi, hz0, hz1, hz2⟩ := info_parts Try.info5
  exact run_make_row (P := Try.prog) 56 5 i0 (.int .u8 0) Try.underlying56 hi hz0 hz1 rfl .i64 .i64 n (by rw [hz2]; omega) (by omega) w
theorem conv_obj (n zb : Nat) (hn : n ≤ 16777216) (Z : ByteArray) (hZ : Z = ⟨(List.replicate n 0).toArray⟩) : ∀ w : World, w.heap[zb]? = some (.cells (madeCells #[.int .u8 0] n) 5 (0, 0)) → (convert 56 9 (.slice (some ⟨zb, 0, none⟩) n n)).run Try.prog w = .ok (.string Z) w := by
  intro w h
  have hb : Bts w 5 (.slice (some ⟨zb, 0, none⟩) n n) (List.replicate n 0) := by
    have hm := madeBytes n
    rw [Nat.mul_one, show (Value.int IntKind.u8 0).cells = #[Value.int .u8 0] from rfl] at hm
    refine ⟨by simp, .inr ⟨zb, n, _, by rw [List.length_replicate], Nat.zero_le _, h, by simp, by unfold maxLen; omega, by rw [size_madeCells]; omega, ?_⟩⟩
    rw [hm, Nat.mul_one]
    exact List.take_of_length_le (by simp)
  rw [hb.conv, hZ]
  rfl

theorem write_neg (D : Dk) (off : Int) (s : List UInt8) (h : off < 0 ∨ off > 16777216 - (s.length : Int)) : (D.write off s).1 = 1 := by
  unfold Dk.write
  rw [if_pos h]

set_option maxRecDepth 100000 in
set_option maxHeartbeats 4000000 in
theorem law_limits (far n off : Int) (w : World) (hfar : -9223372036854775808 ≤ far ∧ far ≤ 9223372036854775807) (hn : -9223372036854775808 ≤ n ∧ n ≤ 9223372036854775807) (hoff : -9223372036854775808 ≤ off ∧ off ≤ 9223372036854775807) :
    Calls Try.prog 11 #[.int .i64 far, .int .i64 n, .int .i64 off] w fun e w' => e = .returned (.bool true) ∧ Frm (fun _ => False) w w' := by
  have Hfar := Lib.hid hfar
  have Hn := Lib.hid hn
  have Hoff := Lib.hid hoff
  clear hfar hn hoff
  go_enter Try.func11, Try.ntmps11
  go_wp2_with fail
  refine (sanity_any _).mono ?_
  rintro e w1 ⟨rfl, f1⟩
  have h1 := (Own.start w).still f1
  clear f1
  go_wp2_with fail
  refine (own_new h1).mono ?_
  rintro e w2 ⟨d, rfl, h2⟩
  go_wp2_with fail
  refine (own_rnew h2).mono ?_
  rintro e w3 ⟨m, rfl, h3⟩
  have h4 := h3.box #[.pointer (some ⟨d, 0, none⟩), .pointer (some ⟨m, 0, none⟩)] 30
  clear h1 h2
  go_wp2_with fail
  obtain ⟨x, hx⟩ : ∃ x, x = w3.heap.size := ⟨_, rfl⟩
  obtain ⟨w4, hw4⟩ : ∃ w4, w4 = w3.alloc (.cells #[.pointer (some ⟨d, 0, none⟩), .pointer (some ⟨m, 0, none⟩)] 30) := ⟨_, rfl⟩
  rw [← hx, ← hw4] at h4 ⊢
  have h5 : Own w (deskL x d m Dk.new 0) w4 := h4
  clear h3 h4 hx hw4
  obtain ⟨k, hk⟩ : ∃ k : Nat, n % 70 = k := ⟨(n % 70).toNat, by have := Int.emod_nonneg n (show (70 : Int) ≠ 0 by decide); omega⟩
  have hk70 : k < 70 := by have := Int.emod_lt_of_pos n (show (0 : Int) < 70 by decide); omega
  refine (mod_any n 70 _ (by decide) (by decide) Hn.out.1 Hn.out.2).mono ?_
  rintro e w5 ⟨rfl, rfl⟩
  rw [hk]
  clear hk
  go_wp2_with fail
  refine (repeated_any 113 k _ (by omega)).mono ?_
  rintro e w6 ⟨rfl, f6⟩
  have h6 := (h5.still f6).drew
  clear f6 h5
  obtain ⟨S, hS⟩ : ∃ S : ByteArray, S = ⟨(List.replicate k 113).toArray⟩ := ⟨_, rfl⟩
  have hsz : S.size = k := by rw [hS]; show (List.replicate k (113 : UInt8)).toArray.size = k; simp
  rw [show strV (List.replicate k 113) = .string S from by rw [hS]; rfl]
  clear hS
  have r0 : 0 ≤ far % 7 := Int.emod_nonneg _ (by omega)
  have r1 : far % 7 < 7 := Int.emod_lt_of_pos _ (by omega)
  have q1 : IntKind.i64.wrap (16777216 - (k : Int)) = 16777216 - (k : Int) := wrap_id (by omega) (by omega)
  have q2 : IntKind.i64.wrap (16777216 - (k : Int) - 3) = 16777216 - (k : Int) - 3 := wrap_id (by omega) (by omega)
  have q3 : IntKind.i64.wrap (16777216 - (k : Int) - 3 + far % 7) = 16777216 - (k : Int) - 3 + far % 7 := wrap_id (by omega) (by omega)
  go_upto_region 6 with fail
  go_region_held3 (fun w' => w'.cell? ⟨x, 0, none⟩ = some (.pointer (some ⟨d, 0, none⟩)) ∧ w'.cell? ⟨x, 1, none⟩ = some (.pointer (some ⟨m, 0, none⟩)))
    (first | exact ⟨(cells2 (h7.obj 2 rfl)).1, (cells2 (h7.obj 2 rfl)).2.1⟩ | exact Own.desk2 h6)
    (first
      | (go_at_call 28; refine (mod_any far 7 _ (by decide) (by decide) Hfar.out.1 Hfar.out.2).mono ?_; rintro e w7 ⟨rfl, rfl⟩)
      | (go_at_call 33; refine (own_write h6 0 rfl _ _ (by omega) (by omega)).mono ?_; rintro e w8 ⟨rfl, h7⟩))
  have h8 := h7.drew
  clear h7 h6
  go_upto_region 7 with fail
  go_region_held3 (fun w' => w'.cell? ⟨x, 0, none⟩ = some (.pointer (some ⟨d, 0, none⟩)) ∧ w'.cell? ⟨x, 1, none⟩ = some (.pointer (some ⟨m, 0, none⟩)))
    (first | exact ⟨(cells2 (h9.obj 2 rfl)).1, (cells2 (h9.obj 2 rfl)).2.1⟩ | exact ⟨(cells2 (h8.obj 2 rfl)).1, (cells2 (h8.obj 2 rfl)).2.1⟩)
    (first
      | (go_at_call 28; refine (mod_any far 7 _ (by decide) (by decide) Hfar.out.1 Hfar.out.2).mono ?_; rintro e w9 ⟨rfl, rfl⟩)
      | (go_at_call 38; refine (own_rwrite h8 1 rfl _ _ (by omega) (by omega)).mono ?_; rintro e w10 ⟨rfl, h9⟩))
  clear h8 q1 q2 q3
  obtain ⟨D1, hD1⟩ : ∃ D : Dk, D = (Dk.new.write (16777216 - (k : Int) - 3 + far % 7) S.data.toList).2 := ⟨_, rfl⟩
  rw [← hD1] at h9
  clear hD1
  obtain ⟨E, hE⟩ : ∃ E : Int, E = (Dk.new.write (16777216 - (k : Int) - 3 + far % 7) S.data.toList).1 := ⟨_, rfl⟩
  rw [← hE]
  clear hE
  go_wp2_with fail
  refine (own_new h9).mono ?_
  rintro e w11 ⟨d2, rfl, h11⟩
  clear h9
  obtain ⟨j, hj⟩ : ∃ j : Nat, off % 500 = j := ⟨(off % 500).toNat, by have := Int.emod_nonneg off (show (500 : Int) ≠ 0 by decide); omega⟩
  have hj500 : j < 500 := by have := Int.emod_lt_of_pos off (show (0 : Int) < 500 by decide); omega
  go_wp2_with fail
  refine (mod_any off 500 _ (by decide) (by decide) Hoff.out.1 Hoff.out.2).mono ?_
  rintro e w12 ⟨rfl, rfl⟩
  rw [hj]
  clear hj
  go_wp2_with fail
  have e13 : (Dk.new.write j (⟨#[]⟩ : ByteArray).data.toList).1 = 0 := write_zero (by omega) (by show (j : Int) ≤ 16777216 - 0; omega) rfl
  refine (own_write h11 3 rfl j ⟨#[]⟩ (by decide) (by omega)).mono ?_
  rintro e w13 ⟨rfl, h13⟩
  rw [e13]
  clear h11 e13
  obtain ⟨D2, hD2⟩ : ∃ D : Dk, D = (Dk.new.write j (⟨#[]⟩ : ByteArray).data.toList).2 := ⟨_, rfl⟩
  rw [← hD2] at h13
  have hnow : D2.now = List.replicate j 0 := by
    rw [hD2, write_dk (by omega) (by show (j : Int) ≤ 16777216 - 0; omega) rfl]
    simp [putL, Dk.new]
  have hlen : D2.now.length = j := by rw [hnow]; simp
  clear hD2
  have h14 := h13.drew
  clear h13
  go_upto_region 11 with fail
  have y1 : IntKind.i64.wrap ((j : Int) + 1) = ((j + 1 : Nat) : Int) := by rw [wrap_id (by omega) (by omega)]; omega
  have y2 : IntKind.i64.wrap (-1 - (j : Int)) = -1 - (j : Int) := wrap_id (by omega) (by omega)
  have y3 : IntKind.i64.wrap (9223372036854775807 - (j : Int)) = 9223372036854775807 - (j : Int) := wrap_id (by omega) (by omega)
  have b1 : D2.write (-1 - (j : Int)) (⟨#[]⟩ : ByteArray).data.toList = (1, D2) := by unfold Dk.write; rw [if_pos (by omega)]
  have b2 : D2.write (9223372036854775807 - (j : Int)) (⟨#[97, 98]⟩ : ByteArray).data.toList = (1, D2) := by unfold Dk.write; rw [if_pos (by omega)]
  have B1 := Lib.hid b1
  have B2 := Lib.hid b2
  have rd : (⟨(D2.read 0 ((j + 1 : Nat) : Int)).toArray⟩ : ByteArray) = ⟨(List.replicate j 0).toArray⟩ := by rw [read_pre, hnow, List.take_of_length_le (by simp)]
  have Rd := Lib.hid rd
  have Hlen := Lib.hid hlen
  clear b1 b2 rd hnow hlen
  obtain ⟨Z, hZ⟩ : ∃ Z : ByteArray, Z = ⟨(List.replicate j 0).toArray⟩ := ⟨_, rfl⟩
  rw [← hZ] at Rd
  have Hmk := Lib.hid (run_zeros j (by omega))
  have hj6 : j ≤ 16777216 := by omega
  have Hcv := fun (b : Nat) => Lib.hid (conv_obj j b hj6 Z hZ)
  clear hj6
  clear hZ
  refine wp_region_held_drew (S := fun w' => w'.cell? ⟨x, 0, none⟩ = some (.pointer (some ⟨d, 0, none⟩)) ∧ w'.cell? ⟨x, 1, none⟩ = some (.pointer (some ⟨m, 0, none⟩))) (by kernel_rfl) ⟨(cells2 (h14.obj 2 rfl)).1, (cells2 (h14.obj 2 rfl)).2.1⟩ (fun hHeld => ?_)
  obtain ⟨w14, hw14⟩ : ∃ w', w' = w13.drew := ⟨_, rfl⟩
  rw [← hw14] at h14 hHeld ⊢
  clear hw14
  refine wpAnyH_take (i := 0) (oi := ⟨some 60, _, _, _, _, _⟩) (v := (.bool true)) rfl (by kernel_rfl) (by kernel_rfl) (by kernel_rfl) (fun _ _ _ h => h) (.inl ⟨by rfl, fun w hw => by dsimp only at hw; go_simp⟩) hHeld ?_
  simp only [Act.put, List.setIfInBounds_toArray, List.set_cons_zero, List.set_cons_succ]
  refine wpAnyH_take (i := 1) (oi := ⟨some 61, _, _, _, _, _⟩) (v := (.bool true)) rfl (by kernel_rfl) (by kernel_rfl) (by kernel_rfl) (fun _ _ _ h => h) (.inl ⟨by rfl, fun w hw => by dsimp only at hw; go_simp⟩) hHeld ?_
  simp only [Act.put, List.setIfInBounds_toArray, List.set_cons_zero, List.set_cons_succ]
  refine wpAnyH_take (i := 2) (oi := ⟨some 62, _, _, _, _, _⟩) (v := (.int .i64 E)) rfl (by kernel_rfl) (by kernel_rfl) (by kernel_rfl) (fun _ _ _ h => h) (.inl ⟨by rfl, fun w hw => by dsimp only at hw; go_simp⟩) hHeld ?_
  simp only [Act.put, List.setIfInBounds_toArray, List.set_cons_zero, List.set_cons_succ]
  refine wpAnyH_take (i := 3) (oi := ⟨some 63, _, _, _, _, _⟩) (v := (.int .i64 E)) rfl (by kernel_rfl) (by kernel_rfl) (by kernel_rfl) (fun _ _ _ h => h) (.inl ⟨by rfl, fun w hw => by dsimp only at hw; go_simp⟩) hHeld ?_
  simp only [Act.put, List.setIfInBounds_toArray, List.set_cons_zero, List.set_cons_succ]
  refine wpAnyH_take (i := 4) (oi := ⟨some 64, _, _, _, _, _⟩) (v := (.bool true)) rfl (by kernel_rfl) (by kernel_rfl) (by kernel_rfl) (fun _ _ _ h => h) (.inl ⟨by rfl, fun w hw => by dsimp only at hw; go_simp⟩) hHeld ?_
  simp only [Act.put, List.setIfInBounds_toArray, List.set_cons_zero, List.set_cons_succ]
  refine wpAnyH_take (i := 5) (oi := ⟨some 65, _, _, _, _, _⟩) (v := (.bool true)) rfl (by kernel_rfl) (by kernel_rfl) (by kernel_rfl) (fun _ _ _ h => h) (.inl ⟨by rfl, fun w hw => by dsimp only at hw; go_simp⟩) hHeld ?_
  simp only [Act.put, List.setIfInBounds_toArray, List.set_cons_zero, List.set_cons_succ]
  refine wpAnyH_take (i := 6) (oi := ⟨some 66, _, _, _, _, _⟩) (v := (.bool true)) rfl (by kernel_rfl) (by kernel_rfl) (by kernel_rfl) (fun _ _ _ h => h) (.inl ⟨by rfl, fun w hw => by dsimp only at hw; go_simp⟩) hHeld ?_
  simp only [Act.put, List.setIfInBounds_toArray, List.set_cons_zero, List.set_cons_succ]
  refine wpAnyH_take (i := 7) (oi := ⟨some 67, _, _, _, _, _⟩) (v := (.pointer (some ⟨x, 0, none⟩))) rfl (by kernel_rfl) (by kernel_rfl) (by kernel_rfl) (fun _ _ _ h => h) (.inl ⟨by rfl, fun w hw => by dsimp only at hw; go_simp⟩) hHeld ?_
  simp only [Act.put, List.setIfInBounds_toArray, List.set_cons_zero, List.set_cons_succ]
  refine wpAnyH_take (i := 8) (oi := ⟨some 68, _, _, _, _, _⟩) (v := (.pointer (some ⟨x, 0, none⟩))) rfl (by kernel_rfl) (by kernel_rfl) (by kernel_rfl) (fun _ _ _ h => h) (.inl ⟨by rfl, fun w hw => by dsimp only at hw; go_simp⟩) hHeld ?_
  simp only [Act.put, List.setIfInBounds_toArray, List.set_cons_zero, List.set_cons_succ]
  refine wpAnyH_take (i := 9) (oi := ⟨some 69, _, _, _, _, _⟩) (v := (.pointer (some ⟨x, 0, none⟩))) rfl (by kernel_rfl) (by kernel_rfl) (by kernel_rfl) (fun _ _ _ h => h) (.inl ⟨by rfl, fun w hw => by dsimp only at hw; go_simp⟩) hHeld ?_
  simp only [Act.put, List.setIfInBounds_toArray, List.set_cons_zero, List.set_cons_succ]
  refine wpAnyH_take (i := 10) (oi := ⟨some 70, _, _, _, _, _⟩) (v := (.pointer (some ⟨d, 0, none⟩))) rfl (by kernel_rfl) (by kernel_rfl) (by kernel_rfl) (fun _ _ _ h => h) (.inl ⟨by rfl, fun w hw => by dsimp only at hw; go_simp⟩) hHeld ?_
  simp only [Act.put, List.setIfInBounds_toArray, List.set_cons_zero, List.set_cons_succ]
  refine wpAnyH_take (i := 12) (oi := ⟨some 72, _, _, _, _, _⟩) (v := (.pointer (some ⟨x, 0, none⟩))) rfl (by kernel_rfl) (by kernel_rfl) (by kernel_rfl) (fun _ _ _ h => h) (.inl ⟨by rfl, fun w hw => by dsimp only at hw; go_simp⟩) hHeld ?_
  simp only [Act.put, List.setIfInBounds_toArray, List.set_cons_zero, List.set_cons_succ]
  refine wpAnyH_take (i := 13) (oi := ⟨some 73, _, _, _, _, _⟩) (v := (.pointer (some ⟨x, 0, none⟩))) rfl (by kernel_rfl) (by kernel_rfl) (by kernel_rfl) (fun _ _ _ h => h) (.inl ⟨by rfl, fun w hw => by dsimp only at hw; go_simp⟩) hHeld ?_
  simp only [Act.put, List.setIfInBounds_toArray, List.set_cons_zero, List.set_cons_succ]
  refine wpAnyH_take (i := 14) (oi := ⟨some 74, _, _, _, _, _⟩) (v := (.pointer (some ⟨x, 1, none⟩))) rfl (by kernel_rfl) (by kernel_rfl) (by kernel_rfl) (fun _ _ _ h => h) (.inl ⟨by rfl, fun w hw => by dsimp only at hw; go_simp⟩) hHeld ?_
  simp only [Act.put, List.setIfInBounds_toArray, List.set_cons_zero, List.set_cons_succ]
  refine wpAnyH_take (i := 15) (oi := ⟨some 75, _, _, _, _, _⟩) (v := (.pointer (some ⟨m, 0, none⟩))) rfl (by kernel_rfl) (by kernel_rfl) (by kernel_rfl) (fun _ _ _ h => h) (.inl ⟨by rfl, fun w hw => by dsimp only at hw; go_simp⟩) hHeld ?_
  simp only [Act.put, List.setIfInBounds_toArray, List.set_cons_zero, List.set_cons_succ]
  refine wpAnyH_ready (rs := [11]) (by kernel_rfl) (by simp) ?_
  refine AllReadyH.cons (o := ⟨some 71, _, _, _, _, _⟩) rfl (fun K hK => ?_) AllReadyH.nil
  go_simp
  refine (own_size h14 0 rfl).mono ?_
  rintro e w15 ⟨rfl, rfl⟩
  refine hK.out _ _ hHeld (fun hHeld => ?_)
  clear hK K
  refine wpAnyH_ready (rs := [16]) (by kernel_rfl) (by simp) ?_
  refine AllReadyH.cons (o := ⟨some 76, _, _, _, _, _⟩) rfl (fun K hK => ?_) AllReadyH.nil
  go_simp
  refine (own_rsize h14 1 rfl).mono ?_
  rintro e w16 ⟨rfl, rfl⟩
  refine hK.out _ _ hHeld (fun hHeld => ?_)
  clear hK K
  refine wpAnyH_take (i := 17) (oi := ⟨some 77, _, _, _, _, _⟩) (v := (.bool true)) rfl (by kernel_rfl) (by kernel_rfl) (by kernel_rfl) (fun _ _ _ h => h) (.inl ⟨by rfl, fun w hw => by dsimp only at hw; go_simp⟩) hHeld ?_
  simp only [Act.put, List.setIfInBounds_toArray, List.set_cons_zero, List.set_cons_succ]
  refine wpAnyH_take (i := 18) (oi := ⟨some 78, _, _, _, _, _⟩) (v := (.bool true)) rfl (by kernel_rfl) (by kernel_rfl) (by kernel_rfl) (fun _ _ _ h => h) (.inl ⟨by rfl, fun w hw => by dsimp only at hw; go_simp⟩) hHeld ?_
  simp only [Act.put, List.setIfInBounds_toArray, List.set_cons_zero, List.set_cons_succ]
  refine wpAnyH_take (i := 19) (oi := ⟨some 79, _, _, _, _, _⟩) (v := (.bool true)) rfl (by kernel_rfl) (by kernel_rfl) (by kernel_rfl) (fun _ _ _ h => h) (.inl ⟨by rfl, fun w hw => by dsimp only at hw; go_simp⟩) hHeld ?_
  simp only [Act.put, List.setIfInBounds_toArray, List.set_cons_zero, List.set_cons_succ]
  refine wpAnyH_take (i := 20) (oi := ⟨some 80, _, _, _, _, _⟩) (v := (.int .i64 0)) rfl (by kernel_rfl) (by kernel_rfl) (by kernel_rfl) (fun _ _ _ h => h) (.inl ⟨by rfl, fun w hw => by dsimp only at hw; go_simp⟩) hHeld ?_
  simp only [Act.put, List.setIfInBounds_toArray, List.set_cons_zero, List.set_cons_succ]
  refine wpAnyH_take (i := 21) (oi := ⟨some 81, _, _, _, _, _⟩) (v := (.bool true)) rfl (by kernel_rfl) (by kernel_rfl) (by kernel_rfl) (fun _ _ _ h => h) (.inl ⟨by rfl, fun w hw => by dsimp only at hw; go_simp⟩) hHeld ?_
  simp only [Act.put, List.setIfInBounds_toArray, List.set_cons_zero, List.set_cons_succ]
  refine wpAnyH_take (i := 22) (oi := ⟨some 82, _, _, _, _, _⟩) (v := (.bool true)) rfl (by kernel_rfl) (by kernel_rfl) (by kernel_rfl) (fun _ _ _ h => h) (.inl ⟨by rfl, fun w hw => by dsimp only at hw; go_simp⟩) hHeld ?_
  simp only [Act.put, List.setIfInBounds_toArray, List.set_cons_zero, List.set_cons_succ]
  refine wpAnyH_take (i := 23) (oi := ⟨some 83, _, _, _, _, _⟩) (v := (.bool true)) rfl (by kernel_rfl) (by kernel_rfl) (by kernel_rfl) (fun _ _ _ h => h) (.inl ⟨by rfl, fun w hw => by dsimp only at hw; go_simp⟩) hHeld ?_
  simp only [Act.put, List.setIfInBounds_toArray, List.set_cons_zero, List.set_cons_succ]
  refine wpAnyH_take (i := 24) (oi := ⟨some 84, _, _, _, _, _⟩) (v := (.pointer (some ⟨d2, 0, none⟩))) rfl (by kernel_rfl) (by kernel_rfl) (by kernel_rfl) (fun _ _ _ h => h) (.inl ⟨by rfl, fun w hw => by dsimp only at hw; go_simp⟩) hHeld ?_
  simp only [Act.put, List.setIfInBounds_toArray, List.set_cons_zero, List.set_cons_succ]
  refine wpAnyH_take (i := 26) (oi := ⟨some 86, _, _, _, _, _⟩) (v := (.int .i64 (j : Int))) rfl (by kernel_rfl) (by kernel_rfl) (by kernel_rfl) (fun _ _ _ h => h) (.inl ⟨by rfl, fun w hw => by dsimp only at hw; go_simp⟩) hHeld ?_
  simp only [Act.put, List.setIfInBounds_toArray, List.set_cons_zero, List.set_cons_succ]
  refine wpAnyH_ready (rs := [25]) (by kernel_rfl) (by simp) ?_
  refine AllReadyH.cons (o := ⟨some 85, _, _, _, _, _⟩) rfl (fun K hK => ?_) AllReadyH.nil
  go_simp
  refine (own_size h14 3 rfl).mono ?_
  rintro e w17 ⟨rfl, rfl⟩
  rw [Hlen.out]
  refine hK.out _ _ hHeld (fun hHeld => ?_)
  clear hK K
  refine wpAnyH_take (i := 27) (oi := ⟨some 87, _, _, _, _, _⟩) (v := (.bool true)) rfl (by kernel_rfl) (by kernel_rfl) (by kernel_rfl) (fun _ _ _ h => h) (.inl ⟨by rfl, fun w hw => by dsimp only at hw; go_simp⟩) hHeld ?_
  simp only [Act.put, List.setIfInBounds_toArray, List.set_cons_zero, List.set_cons_succ]
  refine wpAnyH_take (i := 28) (oi := ⟨some 88, _, _, _, _, _⟩) (v := (.bool true)) rfl (by kernel_rfl) (by kernel_rfl) (by kernel_rfl) (fun _ _ _ h => h) (.inl ⟨by rfl, fun w hw => by dsimp only at hw; go_simp⟩) hHeld ?_
  simp only [Act.put, List.setIfInBounds_toArray, List.set_cons_zero, List.set_cons_succ]
  refine wpAnyH_take (i := 29) (oi := ⟨some 89, _, _, _, _, _⟩) (v := (.bool true)) rfl (by kernel_rfl) (by kernel_rfl) (by kernel_rfl) (fun _ _ _ h => h) (.inl ⟨by rfl, fun w hw => by dsimp only at hw; go_simp⟩) hHeld ?_
  simp only [Act.put, List.setIfInBounds_toArray, List.set_cons_zero, List.set_cons_succ]
  refine wpAnyH_take (i := 30) (oi := ⟨some 90, _, _, _, _, _⟩) (v := (.pointer (some ⟨d2, 0, none⟩))) rfl (by kernel_rfl) (by kernel_rfl) (by kernel_rfl) (fun _ _ _ h => h) (.inl ⟨by rfl, fun w hw => by dsimp only at hw; go_simp⟩) hHeld ?_
  simp only [Act.put, List.setIfInBounds_toArray, List.set_cons_zero, List.set_cons_succ]
  refine wpAnyH_take (i := 31) (oi := ⟨some 91, _, _, _, _, _⟩) (v := (.int .i64 (j : Int))) rfl (by kernel_rfl) (by kernel_rfl) (by kernel_rfl) (fun _ _ _ h => h) (.inl ⟨by rfl, fun w hw => by dsimp only at hw; go_simp⟩) hHeld ?_
  simp only [Act.put, List.setIfInBounds_toArray, List.set_cons_zero, List.set_cons_succ]
  refine wpAnyH_take (i := 32) (oi := ⟨some 92, _, _, _, _, _⟩) (v := (.int .i64 ((j + 1 : Nat) : Int))) rfl (by kernel_rfl) (by kernel_rfl) (by kernel_rfl) (fun _ _ _ h => h) (.inl ⟨by rfl, fun w hw => by dsimp only at hw; go_simp⟩) hHeld ?_
  simp only [Act.put, List.setIfInBounds_toArray, List.set_cons_zero, List.set_cons_succ]
  refine wpAnyH_take (i := 34) (oi := ⟨some 94, _, _, _, _, _⟩) (v := (.int .i64 (j : Int))) rfl (by kernel_rfl) (by kernel_rfl) (by kernel_rfl) (fun _ _ _ h => h) (.inl ⟨by rfl, fun w hw => by dsimp only at hw; go_simp⟩) hHeld ?_
  simp only [Act.put, List.setIfInBounds_toArray, List.set_cons_zero, List.set_cons_succ]
  refine wpAnyH_ready (rs := [33, 35]) (by kernel_rfl) (by simp) ?_
  refine AllReadyH.cons (o := ⟨some 93, _, _, _, _, _⟩) rfl (fun K hK => ?_) (AllReadyH.cons (o := ⟨some 95, _, _, _, _, _⟩) rfl (fun K hK => ?_) AllReadyH.nil)
  · go_simp
    refine (own_read_eq h14 3 rfl 0 _ (by omega) Rd.out).mono ?_
    rintro e w18 ⟨rfl, h15⟩
    refine hK.out _ _ ⟨(cells2 (h15.obj 2 rfl)).1, (cells2 (h15.obj 2 rfl)).2.1⟩ (fun hHeld => ?_)
    clear hK K
    refine wpAnyH_ready (rs := [35]) (by kernel_rfl) (by simp) ?_
    refine AllReadyH.cons (o := ⟨some 95, _, _, _, _, _⟩) rfl (fun K hK => ?_) AllReadyH.nil
    have hmk := Hmk.out w18
    go_simp
    clear hmk
    have h16 := h15.box (madeCells #[.int .u8 0] j) 5
    obtain ⟨zb, hzb⟩ : ∃ b, b = w18.heap.size := ⟨_, rfl⟩
    obtain ⟨w19, hw19⟩ : ∃ w', w' = w18.alloc (.cells (madeCells #[.int .u8 0] j) 5) := ⟨_, rfl⟩
    rw [← hzb, ← hw19] at h16 ⊢
    refine hK.out _ _ ⟨(cells2 (h16.obj 2 rfl)).1, (cells2 (h16.obj 2 rfl)).2.1⟩ (fun hHeld => ?_)
    clear hK K hw19 hzb
    refine wpAnyH_ready (rs := [36]) (by kernel_rfl) (by simp) ?_
    refine AllReadyH.cons (o := ⟨some 96, _, _, _, _, _⟩) rfl (fun K hK => ?_) AllReadyH.nil
    have hcv := (Hcv zb).out w19 (h16.obj (x := zb) (cs := madeCells #[.int .u8 0] j) (t := 5) 4 rfl)
    go_simp
    clear hcv
    refine hK.out _ _ ⟨(cells2 (h16.obj 2 rfl)).1, (cells2 (h16.obj 2 rfl)).2.1⟩ (fun hHeld => ?_)
    clear hK K
    refine wpAnyH_take (i := 37) (oi := ⟨some 97, _, _, _, _, _⟩) (v := (.bool true)) rfl (by kernel_rfl) (by kernel_rfl) (by kernel_rfl) (fun _ _ _ h => h) (.inl ⟨by rfl, fun w hw => by dsimp only at hw; go_simp⟩) hHeld ?_
    simp only [Act.put, List.setIfInBounds_toArray, List.set_cons_zero, List.set_cons_succ]
    refine wpAnyH_take (i := 38) (oi := ⟨some 98, _, _, _, _, _⟩) (v := (.bool true)) rfl (by kernel_rfl) (by kernel_rfl) (by kernel_rfl) (fun _ _ _ h => h) (.inl ⟨by rfl, fun w hw => by dsimp only at hw; go_simp⟩) hHeld ?_
    simp only [Act.put, List.setIfInBounds_toArray, List.set_cons_zero, List.set_cons_succ]
    refine wpAnyH_take (i := 39) (oi := ⟨some 99, _, _, _, _, _⟩) (v := (.bool true)) rfl (by kernel_rfl) (by kernel_rfl) (by kernel_rfl) (fun _ _ _ h => h) (.inl ⟨by rfl, fun w hw => by dsimp only at hw; go_simp⟩) hHeld ?_
    simp only [Act.put, List.setIfInBounds_toArray, List.set_cons_zero, List.set_cons_succ]
    refine wpAnyH_take (i := 40) (oi := ⟨some 100, _, _, _, _, _⟩) (v := (.pointer (some ⟨d2, 0, none⟩))) rfl (by kernel_rfl) (by kernel_rfl) (by kernel_rfl) (fun _ _ _ h => h) (.inl ⟨by rfl, fun w hw => by dsimp only at hw; go_simp⟩) hHeld ?_
    simp only [Act.put, List.setIfInBounds_toArray, List.set_cons_zero, List.set_cons_succ]
    refine wpAnyH_take (i := 41) (oi := ⟨some 101, _, _, _, _, _⟩) (v := (.int .i64 (j : Int))) rfl (by kernel_rfl) (by kernel_rfl) (by kernel_rfl) (fun _ _ _ h => h) (.inl ⟨by rfl, fun w hw => by dsimp only at hw; go_simp⟩) hHeld ?_
    simp only [Act.put, List.setIfInBounds_toArray, List.set_cons_zero, List.set_cons_succ]
    refine wpAnyH_take (i := 42) (oi := ⟨some 102, _, _, _, _, _⟩) (v := (.int .i64 (-1 - (j : Int)))) rfl (by kernel_rfl) (by kernel_rfl) (by kernel_rfl) (fun _ _ _ h => h) (.inl ⟨by rfl, fun w hw => by dsimp only at hw; go_simp⟩) hHeld ?_
    simp only [Act.put, List.setIfInBounds_toArray, List.set_cons_zero, List.set_cons_succ]
    refine wpAnyH_ready (rs := [43]) (by kernel_rfl) (by simp) ?_
    refine AllReadyH.cons (o := ⟨some 103, _, _, _, _, _⟩) rfl (fun K hK => ?_) AllReadyH.nil
    go_simp
    refine (own_write_eq h16 3 rfl _ ⟨#[]⟩ (by decide) (by omega) B1.out rfl).mono ?_
    rintro e w21 ⟨rfl, h21⟩
    refine hK.out _ _ ⟨(cells2 (h21.obj 2 rfl)).1, (cells2 (h21.obj 2 rfl)).2.1⟩ (fun hHeld => ?_)
    clear hK K
    refine wpAnyH_take (i := 44) (oi := ⟨some 104, _, _, _, _, _⟩) (v := (.bool true)) rfl (by kernel_rfl) (by kernel_rfl) (by kernel_rfl) (fun _ _ _ h => h) (.inl ⟨by rfl, fun w hw => by dsimp only at hw; go_simp⟩) hHeld ?_
    simp only [Act.put, List.setIfInBounds_toArray, List.set_cons_zero, List.set_cons_succ]
    refine wpAnyH_take (i := 45) (oi := ⟨some 105, _, _, _, _, _⟩) (v := (.bool true)) rfl (by kernel_rfl) (by kernel_rfl) (by kernel_rfl) (fun _ _ _ h => h) (.inl ⟨by rfl, fun w hw => by dsimp only at hw; go_simp⟩) hHeld ?_
    simp only [Act.put, List.setIfInBounds_toArray, List.set_cons_zero, List.set_cons_succ]
    refine wpAnyH_take (i := 46) (oi := ⟨some 106, _, _, _, _, _⟩) (v := (.bool true)) rfl (by kernel_rfl) (by kernel_rfl) (by kernel_rfl) (fun _ _ _ h => h) (.inl ⟨by rfl, fun w hw => by dsimp only at hw; go_simp⟩) hHeld ?_
    simp only [Act.put, List.setIfInBounds_toArray, List.set_cons_zero, List.set_cons_succ]
    refine wpAnyH_take (i := 47) (oi := ⟨some 107, _, _, _, _, _⟩) (v := (.pointer (some ⟨d2, 0, none⟩))) rfl (by kernel_rfl) (by kernel_rfl) (by kernel_rfl) (fun _ _ _ h => h) (.inl ⟨by rfl, fun w hw => by dsimp only at hw; go_simp⟩) hHeld ?_
    simp only [Act.put, List.setIfInBounds_toArray, List.set_cons_zero, List.set_cons_succ]
    refine wpAnyH_take (i := 48) (oi := ⟨some 108, _, _, _, _, _⟩) (v := (.int .i64 (j : Int))) rfl (by kernel_rfl) (by kernel_rfl) (by kernel_rfl) (fun _ _ _ h => h) (.inl ⟨by rfl, fun w hw => by dsimp only at hw; go_simp⟩) hHeld ?_
    simp only [Act.put, List.setIfInBounds_toArray, List.set_cons_zero, List.set_cons_succ]
    refine wpAnyH_take (i := 49) (oi := ⟨some 109, _, _, _, _, _⟩) (v := (.int .i64 (9223372036854775807 - (j : Int)))) rfl (by kernel_rfl) (by kernel_rfl) (by kernel_rfl) (fun _ _ _ h => h) (.inl ⟨by rfl, fun w hw => by dsimp only at hw; go_simp⟩) hHeld ?_
    simp only [Act.put, List.setIfInBounds_toArray, List.set_cons_zero, List.set_cons_succ]
    refine wpAnyH_ready (rs := [50]) (by kernel_rfl) (by simp) ?_
    refine AllReadyH.cons (o := ⟨some 110, _, _, _, _, _⟩) rfl (fun K hK => ?_) AllReadyH.nil
    go_simp
    refine (own_write_eq h21 3 rfl _ ⟨#[97, 98]⟩ (by decide) (by omega) B2.out rfl).mono ?_
    rintro e w22 ⟨rfl, h22⟩
    refine hK.out _ _ ⟨(cells2 (h22.obj 2 rfl)).1, (cells2 (h22.obj 2 rfl)).2.1⟩ (fun hHeld => ?_)
    clear hK K
    refine wpAnyH_take (i := 51) (oi := ⟨some 111, _, _, _, _, _⟩) (v := (.bool true)) rfl (by kernel_rfl) (by kernel_rfl) (by kernel_rfl) (fun _ _ _ h => h) (.inl ⟨by rfl, fun w hw => by dsimp only at hw; go_simp⟩) hHeld ?_
    simp only [Act.put, List.setIfInBounds_toArray, List.set_cons_zero, List.set_cons_succ]
    refine wpAnyH_take (i := 52) (oi := ⟨some 112, _, _, _, _, _⟩) (v := (.bool true)) rfl (by kernel_rfl) (by kernel_rfl) (by kernel_rfl) (fun _ _ _ h => h) (.inl ⟨by rfl, fun w hw => by dsimp only at hw; go_simp⟩) hHeld ?_
    simp only [Act.put, List.setIfInBounds_toArray, List.set_cons_zero, List.set_cons_succ]
    refine wpAnyH_take (i := 53) (oi := ⟨some 6, _, _, _, _, _⟩) (v := (.bool true)) rfl (by kernel_rfl) (by kernel_rfl) (by kernel_rfl) (fun _ _ _ h => h) (.inl ⟨by rfl, fun w hw => by dsimp only at hw; go_simp⟩) hHeld ?_
    simp only [Act.put, List.setIfInBounds_toArray, List.set_cons_zero, List.set_cons_succ]
    refine wpAnyH_done (by kernel_rfl) ?_ _
    go_wp2_with fail
    go_ret
    exact ⟨rfl, h22.frm⟩
  · have hmk := Hmk.out w14
    go_simp
    clear hmk
    have h15 := h14.box (madeCells #[.int .u8 0] j) 5
    obtain ⟨zb, hzb⟩ : ∃ b, b = w14.heap.size := ⟨_, rfl⟩
    obtain ⟨w18, hw18⟩ : ∃ w', w' = w14.alloc (.cells (madeCells #[.int .u8 0] j) 5) := ⟨_, rfl⟩
    rw [← hzb, ← hw18] at h15 ⊢
    refine hK.out _ _ ⟨(cells2 (h15.obj 2 rfl)).1, (cells2 (h15.obj 2 rfl)).2.1⟩ (fun hHeld => ?_)
    clear hK K hw18 hzb
    refine wpAnyH_ready (rs := [33, 36]) (by kernel_rfl) (by simp) ?_
    refine AllReadyH.cons (o := ⟨some 93, _, _, _, _, _⟩) rfl (fun K hK => ?_) (AllReadyH.cons (o := ⟨some 96, _, _, _, _, _⟩) rfl (fun K hK => ?_) AllReadyH.nil)
    · go_simp
      refine (own_read_eq h15 3 rfl 0 _ (by omega) Rd.out).mono ?_
      rintro e w19 ⟨rfl, h16⟩
      refine hK.out _ _ ⟨(cells2 (h16.obj 2 rfl)).1, (cells2 (h16.obj 2 rfl)).2.1⟩ (fun hHeld => ?_)
      clear hK K
      refine wpAnyH_ready (rs := [36]) (by kernel_rfl) (by simp) ?_
      refine AllReadyH.cons (o := ⟨some 96, _, _, _, _, _⟩) rfl (fun K hK => ?_) AllReadyH.nil
      have hcv := (Hcv zb).out w19 (h16.obj (x := zb) (cs := madeCells #[.int .u8 0] j) (t := 5) 4 rfl)
      go_simp
      clear hcv
      refine hK.out _ _ ⟨(cells2 (h16.obj 2 rfl)).1, (cells2 (h16.obj 2 rfl)).2.1⟩ (fun hHeld => ?_)
      clear hK K
      refine wpAnyH_take (i := 37) (oi := ⟨some 97, _, _, _, _, _⟩) (v := (.bool true)) rfl (by kernel_rfl) (by kernel_rfl) (by kernel_rfl) (fun _ _ _ h => h) (.inl ⟨by rfl, fun w hw => by dsimp only at hw; go_simp⟩) hHeld ?_
      simp only [Act.put, List.setIfInBounds_toArray, List.set_cons_zero, List.set_cons_succ]
      refine wpAnyH_take (i := 38) (oi := ⟨some 98, _, _, _, _, _⟩) (v := (.bool true)) rfl (by kernel_rfl) (by kernel_rfl) (by kernel_rfl) (fun _ _ _ h => h) (.inl ⟨by rfl, fun w hw => by dsimp only at hw; go_simp⟩) hHeld ?_
      simp only [Act.put, List.setIfInBounds_toArray, List.set_cons_zero, List.set_cons_succ]
      refine wpAnyH_take (i := 39) (oi := ⟨some 99, _, _, _, _, _⟩) (v := (.bool true)) rfl (by kernel_rfl) (by kernel_rfl) (by kernel_rfl) (fun _ _ _ h => h) (.inl ⟨by rfl, fun w hw => by dsimp only at hw; go_simp⟩) hHeld ?_
      simp only [Act.put, List.setIfInBounds_toArray, List.set_cons_zero, List.set_cons_succ]
      refine wpAnyH_take (i := 40) (oi := ⟨some 100, _, _, _, _, _⟩) (v := (.pointer (some ⟨d2, 0, none⟩))) rfl (by kernel_rfl) (by kernel_rfl) (by kernel_rfl) (fun _ _ _ h => h) (.inl ⟨by rfl, fun w hw => by dsimp only at hw; go_simp⟩) hHeld ?_
      simp only [Act.put, List.setIfInBounds_toArray, List.set_cons_zero, List.set_cons_succ]
      refine wpAnyH_take (i := 41) (oi := ⟨some 101, _, _, _, _, _⟩) (v := (.int .i64 (j : Int))) rfl (by kernel_rfl) (by kernel_rfl) (by kernel_rfl) (fun _ _ _ h => h) (.inl ⟨by rfl, fun w hw => by dsimp only at hw; go_simp⟩) hHeld ?_
      simp only [Act.put, List.setIfInBounds_toArray, List.set_cons_zero, List.set_cons_succ]
      refine wpAnyH_take (i := 42) (oi := ⟨some 102, _, _, _, _, _⟩) (v := (.int .i64 (-1 - (j : Int)))) rfl (by kernel_rfl) (by kernel_rfl) (by kernel_rfl) (fun _ _ _ h => h) (.inl ⟨by rfl, fun w hw => by dsimp only at hw; go_simp⟩) hHeld ?_
      simp only [Act.put, List.setIfInBounds_toArray, List.set_cons_zero, List.set_cons_succ]
      refine wpAnyH_ready (rs := [43]) (by kernel_rfl) (by simp) ?_
      refine AllReadyH.cons (o := ⟨some 103, _, _, _, _, _⟩) rfl (fun K hK => ?_) AllReadyH.nil
      go_simp
      refine (own_write_eq h16 3 rfl _ ⟨#[]⟩ (by decide) (by omega) B1.out rfl).mono ?_
      rintro e w21 ⟨rfl, h21⟩
      refine hK.out _ _ ⟨(cells2 (h21.obj 2 rfl)).1, (cells2 (h21.obj 2 rfl)).2.1⟩ (fun hHeld => ?_)
      clear hK K
      refine wpAnyH_take (i := 44) (oi := ⟨some 104, _, _, _, _, _⟩) (v := (.bool true)) rfl (by kernel_rfl) (by kernel_rfl) (by kernel_rfl) (fun _ _ _ h => h) (.inl ⟨by rfl, fun w hw => by dsimp only at hw; go_simp⟩) hHeld ?_
      simp only [Act.put, List.setIfInBounds_toArray, List.set_cons_zero, List.set_cons_succ]
      refine wpAnyH_take (i := 45) (oi := ⟨some 105, _, _, _, _, _⟩) (v := (.bool true)) rfl (by kernel_rfl) (by kernel_rfl) (by kernel_rfl) (fun _ _ _ h => h) (.inl ⟨by rfl, fun w hw => by dsimp only at hw; go_simp⟩) hHeld ?_
      simp only [Act.put, List.setIfInBounds_toArray, List.set_cons_zero, List.set_cons_succ]
      refine wpAnyH_take (i := 46) (oi := ⟨some 106, _, _, _, _, _⟩) (v := (.bool true)) rfl (by kernel_rfl) (by kernel_rfl) (by kernel_rfl) (fun _ _ _ h => h) (.inl ⟨by rfl, fun w hw => by dsimp only at hw; go_simp⟩) hHeld ?_
      simp only [Act.put, List.setIfInBounds_toArray, List.set_cons_zero, List.set_cons_succ]
      refine wpAnyH_take (i := 47) (oi := ⟨some 107, _, _, _, _, _⟩) (v := (.pointer (some ⟨d2, 0, none⟩))) rfl (by kernel_rfl) (by kernel_rfl) (by kernel_rfl) (fun _ _ _ h => h) (.inl ⟨by rfl, fun w hw => by dsimp only at hw; go_simp⟩) hHeld ?_
      simp only [Act.put, List.setIfInBounds_toArray, List.set_cons_zero, List.set_cons_succ]
      refine wpAnyH_take (i := 48) (oi := ⟨some 108, _, _, _, _, _⟩) (v := (.int .i64 (j : Int))) rfl (by kernel_rfl) (by kernel_rfl) (by kernel_rfl) (fun _ _ _ h => h) (.inl ⟨by rfl, fun w hw => by dsimp only at hw; go_simp⟩) hHeld ?_
      simp only [Act.put, List.setIfInBounds_toArray, List.set_cons_zero, List.set_cons_succ]
      refine wpAnyH_take (i := 49) (oi := ⟨some 109, _, _, _, _, _⟩) (v := (.int .i64 (9223372036854775807 - (j : Int)))) rfl (by kernel_rfl) (by kernel_rfl) (by kernel_rfl) (fun _ _ _ h => h) (.inl ⟨by rfl, fun w hw => by dsimp only at hw; go_simp⟩) hHeld ?_
      simp only [Act.put, List.setIfInBounds_toArray, List.set_cons_zero, List.set_cons_succ]
      refine wpAnyH_ready (rs := [50]) (by kernel_rfl) (by simp) ?_
      refine AllReadyH.cons (o := ⟨some 110, _, _, _, _, _⟩) rfl (fun K hK => ?_) AllReadyH.nil
      go_simp
      refine (own_write_eq h21 3 rfl _ ⟨#[97, 98]⟩ (by decide) (by omega) B2.out rfl).mono ?_
      rintro e w22 ⟨rfl, h22⟩
      refine hK.out _ _ ⟨(cells2 (h22.obj 2 rfl)).1, (cells2 (h22.obj 2 rfl)).2.1⟩ (fun hHeld => ?_)
      clear hK K
      refine wpAnyH_take (i := 51) (oi := ⟨some 111, _, _, _, _, _⟩) (v := (.bool true)) rfl (by kernel_rfl) (by kernel_rfl) (by kernel_rfl) (fun _ _ _ h => h) (.inl ⟨by rfl, fun w hw => by dsimp only at hw; go_simp⟩) hHeld ?_
      simp only [Act.put, List.setIfInBounds_toArray, List.set_cons_zero, List.set_cons_succ]
      refine wpAnyH_take (i := 52) (oi := ⟨some 112, _, _, _, _, _⟩) (v := (.bool true)) rfl (by kernel_rfl) (by kernel_rfl) (by kernel_rfl) (fun _ _ _ h => h) (.inl ⟨by rfl, fun w hw => by dsimp only at hw; go_simp⟩) hHeld ?_
      simp only [Act.put, List.setIfInBounds_toArray, List.set_cons_zero, List.set_cons_succ]
      refine wpAnyH_take (i := 53) (oi := ⟨some 6, _, _, _, _, _⟩) (v := (.bool true)) rfl (by kernel_rfl) (by kernel_rfl) (by kernel_rfl) (fun _ _ _ h => h) (.inl ⟨by rfl, fun w hw => by dsimp only at hw; go_simp⟩) hHeld ?_
      simp only [Act.put, List.setIfInBounds_toArray, List.set_cons_zero, List.set_cons_succ]
      refine wpAnyH_done (by kernel_rfl) ?_ _
      go_wp2_with fail
      go_ret
      exact ⟨rfl, h22.frm⟩
    · have hcv := (Hcv zb).out w18 (h15.obj (x := zb) (cs := madeCells #[.int .u8 0] j) (t := 5) 4 rfl)
      go_simp
      clear hcv
      refine hK.out _ _ ⟨(cells2 (h15.obj 2 rfl)).1, (cells2 (h15.obj 2 rfl)).2.1⟩ (fun hHeld => ?_)
      clear hK K
      refine wpAnyH_ready (rs := [33]) (by kernel_rfl) (by simp) ?_
      refine AllReadyH.cons (o := ⟨some 93, _, _, _, _, _⟩) rfl (fun K hK => ?_) AllReadyH.nil
      go_simp
      refine (own_read_eq h15 3 rfl 0 _ (by omega) Rd.out).mono ?_
      rintro e w19 ⟨rfl, h16⟩
      refine hK.out _ _ ⟨(cells2 (h16.obj 2 rfl)).1, (cells2 (h16.obj 2 rfl)).2.1⟩ (fun hHeld => ?_)
      clear hK K
      refine wpAnyH_take (i := 37) (oi := ⟨some 97, _, _, _, _, _⟩) (v := (.bool true)) rfl (by kernel_rfl) (by kernel_rfl) (by kernel_rfl) (fun _ _ _ h => h) (.inl ⟨by rfl, fun w hw => by dsimp only at hw; go_simp⟩) hHeld ?_
      simp only [Act.put, List.setIfInBounds_toArray, List.set_cons_zero, List.set_cons_succ]
      refine wpAnyH_take (i := 38) (oi := ⟨some 98, _, _, _, _, _⟩) (v := (.bool true)) rfl (by kernel_rfl) (by kernel_rfl) (by kernel_rfl) (fun _ _ _ h => h) (.inl ⟨by rfl, fun w hw => by dsimp only at hw; go_simp⟩) hHeld ?_
      simp only [Act.put, List.setIfInBounds_toArray, List.set_cons_zero, List.set_cons_succ]
      refine wpAnyH_take (i := 39) (oi := ⟨some 99, _, _, _, _, _⟩) (v := (.bool true)) rfl (by kernel_rfl) (by kernel_rfl) (by kernel_rfl) (fun _ _ _ h => h) (.inl ⟨by rfl, fun w hw => by dsimp only at hw; go_simp⟩) hHeld ?_
      simp only [Act.put, List.setIfInBounds_toArray, List.set_cons_zero, List.set_cons_succ]
      refine wpAnyH_take (i := 40) (oi := ⟨some 100, _, _, _, _, _⟩) (v := (.pointer (some ⟨d2, 0, none⟩))) rfl (by kernel_rfl) (by kernel_rfl) (by kernel_rfl) (fun _ _ _ h => h) (.inl ⟨by rfl, fun w hw => by dsimp only at hw; go_simp⟩) hHeld ?_
      simp only [Act.put, List.setIfInBounds_toArray, List.set_cons_zero, List.set_cons_succ]
      refine wpAnyH_take (i := 41) (oi := ⟨some 101, _, _, _, _, _⟩) (v := (.int .i64 (j : Int))) rfl (by kernel_rfl) (by kernel_rfl) (by kernel_rfl) (fun _ _ _ h => h) (.inl ⟨by rfl, fun w hw => by dsimp only at hw; go_simp⟩) hHeld ?_
      simp only [Act.put, List.setIfInBounds_toArray, List.set_cons_zero, List.set_cons_succ]
      refine wpAnyH_take (i := 42) (oi := ⟨some 102, _, _, _, _, _⟩) (v := (.int .i64 (-1 - (j : Int)))) rfl (by kernel_rfl) (by kernel_rfl) (by kernel_rfl) (fun _ _ _ h => h) (.inl ⟨by rfl, fun w hw => by dsimp only at hw; go_simp⟩) hHeld ?_
      simp only [Act.put, List.setIfInBounds_toArray, List.set_cons_zero, List.set_cons_succ]
      refine wpAnyH_ready (rs := [43]) (by kernel_rfl) (by simp) ?_
      refine AllReadyH.cons (o := ⟨some 103, _, _, _, _, _⟩) rfl (fun K hK => ?_) AllReadyH.nil
      go_simp
      refine (own_write_eq h16 3 rfl _ ⟨#[]⟩ (by decide) (by omega) B1.out rfl).mono ?_
      rintro e w21 ⟨rfl, h21⟩
      refine hK.out _ _ ⟨(cells2 (h21.obj 2 rfl)).1, (cells2 (h21.obj 2 rfl)).2.1⟩ (fun hHeld => ?_)
      clear hK K
      refine wpAnyH_take (i := 44) (oi := ⟨some 104, _, _, _, _, _⟩) (v := (.bool true)) rfl (by kernel_rfl) (by kernel_rfl) (by kernel_rfl) (fun _ _ _ h => h) (.inl ⟨by rfl, fun w hw => by dsimp only at hw; go_simp⟩) hHeld ?_
      simp only [Act.put, List.setIfInBounds_toArray, List.set_cons_zero, List.set_cons_succ]
      refine wpAnyH_take (i := 45) (oi := ⟨some 105, _, _, _, _, _⟩) (v := (.bool true)) rfl (by kernel_rfl) (by kernel_rfl) (by kernel_rfl) (fun _ _ _ h => h) (.inl ⟨by rfl, fun w hw => by dsimp only at hw; go_simp⟩) hHeld ?_
      simp only [Act.put, List.setIfInBounds_toArray, List.set_cons_zero, List.set_cons_succ]
      refine wpAnyH_take (i := 46) (oi := ⟨some 106, _, _, _, _, _⟩) (v := (.bool true)) rfl (by kernel_rfl) (by kernel_rfl) (by kernel_rfl) (fun _ _ _ h => h) (.inl ⟨by rfl, fun w hw => by dsimp only at hw; go_simp⟩) hHeld ?_
      simp only [Act.put, List.setIfInBounds_toArray, List.set_cons_zero, List.set_cons_succ]
      refine wpAnyH_take (i := 47) (oi := ⟨some 107, _, _, _, _, _⟩) (v := (.pointer (some ⟨d2, 0, none⟩))) rfl (by kernel_rfl) (by kernel_rfl) (by kernel_rfl) (fun _ _ _ h => h) (.inl ⟨by rfl, fun w hw => by dsimp only at hw; go_simp⟩) hHeld ?_
      simp only [Act.put, List.setIfInBounds_toArray, List.set_cons_zero, List.set_cons_succ]
      refine wpAnyH_take (i := 48) (oi := ⟨some 108, _, _, _, _, _⟩) (v := (.int .i64 (j : Int))) rfl (by kernel_rfl) (by kernel_rfl) (by kernel_rfl) (fun _ _ _ h => h) (.inl ⟨by rfl, fun w hw => by dsimp only at hw; go_simp⟩) hHeld ?_
      simp only [Act.put, List.setIfInBounds_toArray, List.set_cons_zero, List.set_cons_succ]
      refine wpAnyH_take (i := 49) (oi := ⟨some 109, _, _, _, _, _⟩) (v := (.int .i64 (9223372036854775807 - (j : Int)))) rfl (by kernel_rfl) (by kernel_rfl) (by kernel_rfl) (fun _ _ _ h => h) (.inl ⟨by rfl, fun w hw => by dsimp only at hw; go_simp⟩) hHeld ?_
      simp only [Act.put, List.setIfInBounds_toArray, List.set_cons_zero, List.set_cons_succ]
      refine wpAnyH_ready (rs := [50]) (by kernel_rfl) (by simp) ?_
      refine AllReadyH.cons (o := ⟨some 110, _, _, _, _, _⟩) rfl (fun K hK => ?_) AllReadyH.nil
      go_simp
      refine (own_write_eq h21 3 rfl _ ⟨#[97, 98]⟩ (by decide) (by omega) B2.out rfl).mono ?_
      rintro e w22 ⟨rfl, h22⟩
      refine hK.out _ _ ⟨(cells2 (h22.obj 2 rfl)).1, (cells2 (h22.obj 2 rfl)).2.1⟩ (fun hHeld => ?_)
      clear hK K
      refine wpAnyH_take (i := 51) (oi := ⟨some 111, _, _, _, _, _⟩) (v := (.bool true)) rfl (by kernel_rfl) (by kernel_rfl) (by kernel_rfl) (fun _ _ _ h => h) (.inl ⟨by rfl, fun w hw => by dsimp only at hw; go_simp⟩) hHeld ?_
      simp only [Act.put, List.setIfInBounds_toArray, List.set_cons_zero, List.set_cons_succ]
      refine wpAnyH_take (i := 52) (oi := ⟨some 112, _, _, _, _, _⟩) (v := (.bool true)) rfl (by kernel_rfl) (by kernel_rfl) (by kernel_rfl) (fun _ _ _ h => h) (.inl ⟨by rfl, fun w hw => by dsimp only at hw; go_simp⟩) hHeld ?_
      simp only [Act.put, List.setIfInBounds_toArray, List.set_cons_zero, List.set_cons_succ]
      refine wpAnyH_take (i := 53) (oi := ⟨some 6, _, _, _, _, _⟩) (v := (.bool true)) rfl (by kernel_rfl) (by kernel_rfl) (by kernel_rfl) (fun _ _ _ h => h) (.inl ⟨by rfl, fun w hw => by dsimp only at hw; go_simp⟩) hHeld ?_
      simp only [Act.put, List.setIfInBounds_toArray, List.set_cons_zero, List.set_cons_succ]
      refine wpAnyH_done (by kernel_rfl) ?_ _
      go_wp2_with fail
      go_ret
      exact ⟨rfl, h22.frm⟩
end Go.Proofs.Ytehdjajeonemoaa
