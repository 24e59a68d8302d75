/-
  ShapeLattice: the law returns true. Conditions: the laid table; the case lies in memory.
-/
import Derived.Test.YtgnjakaamgeibaaDoorShZ
import Derived.Test.YtgnjakaamgeibaaDoorShS
namespace Go.Proofs.YtgnjakaamgeibaaDoor
open Go.RowKit Go.Shelf
attribute [local go_sem] Oper.semAt_some

theorem join_size {p q : Shp} {m : Nat} (h1 : p.bg.size ≤ m) (h2 : p.en.size ≤ m) (g1 : q.bg.size ≤ m) (g2 : q.en.size ≤ m) : (joinS p q).bg.size ≤ m ∧ (joinS p q).en.size ≤ m := by
  unfold joinS
  split
  · exact ⟨Nat.zero_le _, Nat.zero_le _⟩
  split
  · exact ⟨g1, g2⟩
  split
  · exact ⟨h1, h2⟩
  · simp only [ByteArray.size_extract]
    omega
theorem meet_size {p q : Shp} {m : Nat} (h1 : p.bg.size ≤ m) (h2 : p.en.size ≤ m) (g1 : q.bg.size ≤ m) (g2 : q.en.size ≤ m) : (meetS p q).bg.size ≤ m ∧ (meetS p q).en.size ≤ m := by
  unfold meetS
  split
  · exact ⟨Nat.zero_le _, Nat.zero_le _⟩
  split
  · exact ⟨Nat.zero_le _, Nat.zero_le _⟩
  · unfold meetM
    simp only
    refine ⟨?_, ?_⟩ <;> split <;> assumption

set_option maxRecDepth 100000 in
set_option maxHeartbeats 8000000 in
theorem law_lattice {ao ao1 : Option Addr} {n cap n1 cap1 : Nat} {l h c : Int} {b d t : ByteArray} (w : World) (hT : Tabs w) (hC : CaseAt w ao ao1 n n1 l h c b d t) :
    Calls Tryd.prog 5 #[.agg #[.slice ao n cap, .slice ao1 n1 cap1, .int .i64 l, .int .i64 h, .int .i64 c, .string b, .string d, .string t]] w fun e w' => e = .returned (.bool true) ∧ Frm (fun _ => False) w w' := by
  have HT := Lib.hid hT
  have HC := Lib.hid hC
  clear hT hC
  go_enter Tryd.func5, Tryd.ntmps5
  go_upto_region 1 with fail
  obtain ⟨W1, x, hW, hx, hf, a0, a1, a2, a3, a4, a5, a6, a7⟩ := one_case w ao ao1 n cap n1 cap1 l h c b d t
  rw [hW, hx]
  have HF := Lib.hid hf
  clear hW hx hf
  go_wp2_with fail
  refine (sanity8_any _ (HT.out.frm HF.out)).mono ?_
  rintro e W2 ⟨rfl, f⟩
  have a0 := f.cell a0 (fun h => h)
  have a1 := f.cell a1 (fun h => h)
  have a2 := f.cell a2 (fun h => h)
  have a3 := f.cell a3 (fun h => h)
  have a4 := f.cell a4 (fun h => h)
  have a5 := f.cell a5 (fun h => h)
  have a6 := f.cell a6 (fun h => h)
  have a7 := f.cell a7 (fun h => h)
  have HF := Lib.hid (HF.out.trans f)
  clear f
  go_wp2_with fail
  refine (shapes_any _ (HC.out.still HF.out)).mono ?_
  rintro e W3 ⟨s0, s1, s2, g0, g1, g2, rfl, f⟩
  have HF := Lib.hid (HF.out.trans f)
  clear f a0 a1 a2 a3 a4 a5 a6 a7 HT HC
  have hr20 := row20_one s0 s1 s2
  go_wp2_with (refine wpList_store_row rfl 28 (.tmp 4) (.tmp 13) rfl _ (row20 s0 s1 s2) rfl rfl 28 _ (heap_alloc_new _ _) row_info28 rfl hr20 ?_)
  obtain ⟨W4, L, hW4, hL, hrow, hfa⟩ := arr_new W3 s0 s1 s2
  rw [hW4, hL]
  clear hW4 hL hr20
  obtain ⟨S, hS, hG⟩ := sh4_of (L := L) g0 g1 g2 hrow
  have HS := Lib.hid hS
  have HG := Lib.hid hG
  have HF := Lib.hid (HF.out.trans hfa)
  clear hS hG hrow hfa g0 g1 g2
  go_loopw [5] (fun s wr => ∃ i : Nat, s = .int .i64 i ∧ i ≤ 3 ∧ Frm (fun _ => False) W4 wr) (fun s _ => 3 - (intOf s).toNat)
  case atStart => exact ⟨0, rfl, Nat.zero_le _, Frm.refl _ _⟩
  case round =>
    obtain ⟨i, rfl, hi, hf⟩ := hrel
    by_cases hi3 : i < 3
    · have hi3I : (i : Int) < 3 := by omega
      have Hf := Lib.hid hf
      clear hf
      go_wp2_with fail
      go_loopw [6] (fun s wr => ∃ k : Nat, s = .int .i64 k ∧ k ≤ 3 ∧ Frm (fun _ => False) W4 wr) (fun s _ => 3 - (intOf s).toNat)
      case atStart => exact ⟨0, rfl, Nat.zero_le _, Hf.out⟩
      case round =>
        clear Hf
        obtain ⟨k, rfl, hk, hf⟩ := hrel
        by_cases hk3 : k < 3
        · have hk3I : (k : Int) < 3 := by omega
          have hi4 : (i : Int) < 4 := by omega
          have hk4 : (k : Int) < 4 := by omega
          obtain ⟨p0, p1, p2, p3, p4⟩ := (HS.out.still hf) i (by omega)
          obtain ⟨q0, q1, q2, q3, q4⟩ := (HS.out.still hf) k (by omega)
          have hp := HG.out i (by omega)
          have hq := HG.out k (by omega)
          generalize S i = p at *
          generalize S k = q at *
          have hpb := hp.bg
          have hpe := hp.en
          have hqb := hq.bg
          have hqe := hq.en
          clear hp hq
          go_upto_region 10 with fail
          obtain ⟨W5a, A, hW, hA, hf5, a0, a1, a2, a3, a4⟩ := one_sh wr p.lo p.hi p.cl p.bg p.en
          rw [hW, hA]
          have q0 := hf5.cell q0 (fun h => h)
          have q1 := hf5.cell q1 (fun h => h)
          have q2 := hf5.cell q2 (fun h => h)
          have q3 := hf5.cell q3 (fun h => h)
          have q4 := hf5.cell q4 (fun h => h)
          have Hf := Lib.hid (hf.trans hf5)
          clear hW hA hf5 hf p0 p1 p2 p3 p4
          go_upto_region 11 with fail
          obtain ⟨W5, B, hW, hB, hf5, b0, b1, b2, b3, b4⟩ := one_sh W5a q.lo q.hi q.cl q.bg q.en
          rw [hW, hB]
          have a0 := hf5.cell a0 (fun h => h)
          have a1 := hf5.cell a1 (fun h => h)
          have a2 := hf5.cell a2 (fun h => h)
          have a3 := hf5.cell a3 (fun h => h)
          have a4 := hf5.cell a4 (fun h => h)
          have Hf := Lib.hid (Hf.out.trans hf5)
          clear hW hB hf5 q0 q1 q2 q3 q4
          go_wp2_with fail
          refine (emp_any p (by omega) (by omega) _).mono ?_
          rintro e V1 ⟨rfl, f⟩
          have a0 := f.cell a0 (fun h => h)
          have a1 := f.cell a1 (fun h => h)
          have a2 := f.cell a2 (fun h => h)
          have a3 := f.cell a3 (fun h => h)
          have a4 := f.cell a4 (fun h => h)
          have b0 := f.cell b0 (fun h => h)
          have b1 := f.cell b1 (fun h => h)
          have b2 := f.cell b2 (fun h => h)
          have b3 := f.cell b3 (fun h => h)
          have b4 := f.cell b4 (fun h => h)
          have Hf := Lib.hid (Hf.out.trans f)
          clear f
          cases hEp : empB p
          · skip
            go_wp2_with fail
            refine (emp_any q (by omega) (by omega) _).mono ?_
            rintro e V2 ⟨rfl, f⟩
            have a0 := f.cell a0 (fun h => h)
            have a1 := f.cell a1 (fun h => h)
            have a2 := f.cell a2 (fun h => h)
            have a3 := f.cell a3 (fun h => h)
            have a4 := f.cell a4 (fun h => h)
            have b0 := f.cell b0 (fun h => h)
            have b1 := f.cell b1 (fun h => h)
            have b2 := f.cell b2 (fun h => h)
            have b3 := f.cell b3 (fun h => h)
            have b4 := f.cell b4 (fun h => h)
            have Hf := Lib.hid (Hf.out.trans f)
            clear f
            cases hEq : empB q
            · skip
              have hjc := join_comm hEp hEq
              have hmc := meet_comm p q
              have hw1 := within_join hEp hEq
              obtain ⟨hw2, hw3⟩ := within_meet p q
              have hw4 := within_self p
              obtain ⟨z1, z2⟩ := join_size (p := p) (q := q) hpb hpe hqb hqe
              obtain ⟨z3, z4⟩ := meet_size (p := p) (q := q) hpb hpe hqb hqe
              have hj := join_any p q ⟨by omega, by omega⟩ ⟨by omega, by omega⟩
              have hj' := join_any q p ⟨by omega, by omega⟩ ⟨by omega, by omega⟩
              have hm := meet_any p q ⟨by omega, by omega⟩ ⟨by omega, by omega⟩
              have hm' := meet_any q p ⟨by omega, by omega⟩ ⟨by omega, by omega⟩
              have hv1 := within_any p (joinS p q) ⟨by omega, by omega⟩ ⟨by omega, by omega⟩
              have hv2 := within_any (meetS p q) p ⟨by omega, by omega⟩ ⟨by omega, by omega⟩
              have hv3 := within_any (meetS p q) q ⟨by omega, by omega⟩ ⟨by omega, by omega⟩
              have hv4 := within_any p p ⟨by omega, by omega⟩ ⟨by omega, by omega⟩
              rw [← hjc] at hj'
              rw [← hmc] at hm'
              rw [hw1] at hv1
              rw [hw2] at hv2
              rw [hw3] at hv3
              rw [hw4] at hv4
              clear hjc hmc hw1 hw2 hw3 hw4 z1 z2 z3 z4 hEp hEq
              generalize joinS p q = J at *
              generalize meetS p q = M at *
              unfold shV at hj hj' hm hm' hv1 hv2 hv3 hv4
              have Hj := Lib.hid hj
              have Hj' := Lib.hid hj'
              have Hm := Lib.hid hm
              have Hm' := Lib.hid hm'
              have Hv1 := Lib.hid hv1
              have Hv2 := Lib.hid hv2
              have Hv3 := Lib.hid hv3
              have Hv4 := Lib.hid hv4
              clear hj hj' hm hm' hv1 hv2 hv3 hv4
              go_wp2_with fail
              refine (Hj.out _).mono ?_
              rintro e V3 ⟨rfl, f⟩
              have a0 := f.cell a0 (fun h => h)
              have a1 := f.cell a1 (fun h => h)
              have a2 := f.cell a2 (fun h => h)
              have a3 := f.cell a3 (fun h => h)
              have a4 := f.cell a4 (fun h => h)
              have b0 := f.cell b0 (fun h => h)
              have b1 := f.cell b1 (fun h => h)
              have b2 := f.cell b2 (fun h => h)
              have b3 := f.cell b3 (fun h => h)
              have b4 := f.cell b4 (fun h => h)
              have Hf := Lib.hid (Hf.out.trans f)
              clear f
              go_upto_region 13 with fail
              obtain ⟨WU, U, hW, hX, hf5, u0, u1, u2, u3, u4⟩ := one_sh V3 J.lo J.hi J.cl J.bg J.en
              rw [hW, hX]
              have a0 := hf5.cell a0 (fun h => h)
              have a1 := hf5.cell a1 (fun h => h)
              have a2 := hf5.cell a2 (fun h => h)
              have a3 := hf5.cell a3 (fun h => h)
              have a4 := hf5.cell a4 (fun h => h)
              have b0 := hf5.cell b0 (fun h => h)
              have b1 := hf5.cell b1 (fun h => h)
              have b2 := hf5.cell b2 (fun h => h)
              have b3 := hf5.cell b3 (fun h => h)
              have b4 := hf5.cell b4 (fun h => h)
              have Hf := Lib.hid (Hf.out.trans hf5)
              clear hW hX hf5
              go_wp2_with fail
              refine (Hm.out _).mono ?_
              rintro e V4 ⟨rfl, f⟩
              have a0 := f.cell a0 (fun h => h)
              have a1 := f.cell a1 (fun h => h)
              have a2 := f.cell a2 (fun h => h)
              have a3 := f.cell a3 (fun h => h)
              have a4 := f.cell a4 (fun h => h)
              have b0 := f.cell b0 (fun h => h)
              have b1 := f.cell b1 (fun h => h)
              have b2 := f.cell b2 (fun h => h)
              have b3 := f.cell b3 (fun h => h)
              have b4 := f.cell b4 (fun h => h)
              have u0 := f.cell u0 (fun h => h)
              have u1 := f.cell u1 (fun h => h)
              have u2 := f.cell u2 (fun h => h)
              have u3 := f.cell u3 (fun h => h)
              have u4 := f.cell u4 (fun h => h)
              have Hf := Lib.hid (Hf.out.trans f)
              clear f
              go_upto_region 14 with fail
              obtain ⟨WY, Y, hW, hX, hf5, y0, y1, y2, y3, y4⟩ := one_sh V4 M.lo M.hi M.cl M.bg M.en
              rw [hW, hX]
              have a0 := hf5.cell a0 (fun h => h)
              have a1 := hf5.cell a1 (fun h => h)
              have a2 := hf5.cell a2 (fun h => h)
              have a3 := hf5.cell a3 (fun h => h)
              have a4 := hf5.cell a4 (fun h => h)
              have b0 := hf5.cell b0 (fun h => h)
              have b1 := hf5.cell b1 (fun h => h)
              have b2 := hf5.cell b2 (fun h => h)
              have b3 := hf5.cell b3 (fun h => h)
              have b4 := hf5.cell b4 (fun h => h)
              have u0 := hf5.cell u0 (fun h => h)
              have u1 := hf5.cell u1 (fun h => h)
              have u2 := hf5.cell u2 (fun h => h)
              have u3 := hf5.cell u3 (fun h => h)
              have u4 := hf5.cell u4 (fun h => h)
              have Hg := Lib.hid (Hf.out.trans hf5).drew
              clear hW hX hf5 Hf Hj Hm
              as_aux_lemma =>
                refine wp_region_held_drew (S := fun w' => w'.cell? ⟨A, 0, none⟩ = some (.int .i64 (p.lo)) ∧ w'.cell? ⟨A, 1, none⟩ = some (.int .i64 (p.hi)) ∧ w'.cell? ⟨A, 2, none⟩ = some (.int .i64 (p.cl)) ∧ w'.cell? ⟨A, 3, none⟩ = some (.string (p.bg)) ∧ w'.cell? ⟨A, 4, none⟩ = some (.string (p.en)) ∧ w'.cell? ⟨B, 0, none⟩ = some (.int .i64 (q.lo)) ∧ w'.cell? ⟨B, 1, none⟩ = some (.int .i64 (q.hi)) ∧ w'.cell? ⟨B, 2, none⟩ = some (.int .i64 (q.cl)) ∧ w'.cell? ⟨B, 3, none⟩ = some (.string (q.bg)) ∧ w'.cell? ⟨B, 4, none⟩ = some (.string (q.en)) ∧ w'.cell? ⟨U, 0, none⟩ = some (.int .i64 (J.lo)) ∧ w'.cell? ⟨U, 1, none⟩ = some (.int .i64 (J.hi)) ∧ w'.cell? ⟨U, 2, none⟩ = some (.int .i64 (J.cl)) ∧ w'.cell? ⟨U, 3, none⟩ = some (.string (J.bg)) ∧ w'.cell? ⟨U, 4, none⟩ = some (.string (J.en)) ∧ w'.cell? ⟨Y, 0, none⟩ = some (.int .i64 (M.lo)) ∧ w'.cell? ⟨Y, 1, none⟩ = some (.int .i64 (M.hi)) ∧ w'.cell? ⟨Y, 2, none⟩ = some (.int .i64 (M.cl)) ∧ w'.cell? ⟨Y, 3, none⟩ = some (.string (M.bg)) ∧ w'.cell? ⟨Y, 4, none⟩ = some (.string (M.en))) (by kernel_rfl) ⟨a0, a1, a2, a3, a4, b0, b1, b2, b3, b4, u0, u1, u2, u3, u4, y0, y1, y2, y3, y4⟩ (fun hHeld => ?_)
                refine wpAnyH_take (i := 0) (oi := ⟨some 40, _, _, _, _, _⟩) (v := (.agg #[.int .i64 (J.lo), .int .i64 (J.hi), .int .i64 (J.cl), .string (J.bg), .string (J.en)])) rfl (by kernel_rfl) (by kernel_rfl) (by kernel_rfl) (fun _ _ _ h => h) (.inl ⟨by rfl, fun w hw => by dsimp only at hw; go_simp⟩) hHeld ?_
                simp only [Act.put, List.setIfInBounds_toArray, List.set_cons_zero, List.set_cons_succ]
                refine wpAnyH_take (i := 1) (oi := ⟨some 41, _, _, _, _, _⟩) (v := (.agg #[.int .i64 (q.lo), .int .i64 (q.hi), .int .i64 (q.cl), .string (q.bg), .string (q.en)])) rfl (by kernel_rfl) (by kernel_rfl) (by kernel_rfl) (fun _ _ _ h => h) (.inl ⟨by rfl, fun w hw => by dsimp only at hw; go_simp⟩) hHeld ?_
                simp only [Act.put, List.setIfInBounds_toArray, List.set_cons_zero, List.set_cons_succ]
                refine wpAnyH_take (i := 2) (oi := ⟨some 42, _, _, _, _, _⟩) (v := (.agg #[.int .i64 (p.lo), .int .i64 (p.hi), .int .i64 (p.cl), .string (p.bg), .string (p.en)])) rfl (by kernel_rfl) (by kernel_rfl) (by kernel_rfl) (fun _ _ _ h => h) (.inl ⟨by rfl, fun w hw => by dsimp only at hw; go_simp⟩) hHeld ?_
                simp only [Act.put, List.setIfInBounds_toArray, List.set_cons_zero, List.set_cons_succ]
                refine wpAnyH_ready (rs := [3]) (by kernel_rfl) (by simp) ?_
                refine AllReadyH.cons (o := ⟨some 43, _, _, _, _, _⟩) rfl (fun K hK => ?_) AllReadyH.nil
                go_simp
                refine (Hj'.out _).mono ?_
                rintro e Vz1 ⟨rfl, fz1⟩
                have HFz1 := Lib.hid (Hg.out.trans fz1)
                refine hK.out _ _ ⟨fz1.cell hHeld.1 (fun h => h), fz1.cell hHeld.2.1 (fun h => h), fz1.cell hHeld.2.2.1 (fun h => h), fz1.cell hHeld.2.2.2.1 (fun h => h), fz1.cell hHeld.2.2.2.2.1 (fun h => h), fz1.cell hHeld.2.2.2.2.2.1 (fun h => h), fz1.cell hHeld.2.2.2.2.2.2.1 (fun h => h), fz1.cell hHeld.2.2.2.2.2.2.2.1 (fun h => h), fz1.cell hHeld.2.2.2.2.2.2.2.2.1 (fun h => h), fz1.cell hHeld.2.2.2.2.2.2.2.2.2.1 (fun h => h), fz1.cell hHeld.2.2.2.2.2.2.2.2.2.2.1 (fun h => h), fz1.cell hHeld.2.2.2.2.2.2.2.2.2.2.2.1 (fun h => h), fz1.cell hHeld.2.2.2.2.2.2.2.2.2.2.2.2.1 (fun h => h), fz1.cell hHeld.2.2.2.2.2.2.2.2.2.2.2.2.2.1 (fun h => h), fz1.cell hHeld.2.2.2.2.2.2.2.2.2.2.2.2.2.2.1 (fun h => h), fz1.cell hHeld.2.2.2.2.2.2.2.2.2.2.2.2.2.2.2.1 (fun h => h), fz1.cell hHeld.2.2.2.2.2.2.2.2.2.2.2.2.2.2.2.2.1 (fun h => h), fz1.cell hHeld.2.2.2.2.2.2.2.2.2.2.2.2.2.2.2.2.2.1 (fun h => h), fz1.cell hHeld.2.2.2.2.2.2.2.2.2.2.2.2.2.2.2.2.2.2.1 (fun h => h), fz1.cell hHeld.2.2.2.2.2.2.2.2.2.2.2.2.2.2.2.2.2.2.2 (fun h => h)⟩ (fun hHeld => ?_)
                clear hK K fz1 Hg
                refine wpAnyH_take (i := 4) (oi := ⟨some 44, _, _, _, _, _⟩) (v := (.bool (false))) rfl (by kernel_rfl) (by kernel_rfl) (by kernel_rfl) (fun _ _ _ h => h) (.inl ⟨by rfl, fun w hw => by dsimp only at hw; go_simp⟩) hHeld ?_
                simp only [Act.put, List.setIfInBounds_toArray, List.set_cons_zero, List.set_cons_succ]
                refine wpAnyH_take (i := 5) (oi := ⟨some 45, _, _, _, _, _⟩) (v := (.bool (false))) rfl (by kernel_rfl) (by kernel_rfl) (by kernel_rfl) (fun _ _ _ h => h) (.inl ⟨by rfl, fun w hw => by dsimp only at hw; go_simp⟩) hHeld ?_
                simp only [Act.put, List.setIfInBounds_toArray, List.set_cons_zero, List.set_cons_succ]
                refine wpAnyH_take (i := 6) (oi := ⟨some 46, _, _, _, _, _⟩) (v := (.agg #[.int .i64 (M.lo), .int .i64 (M.hi), .int .i64 (M.cl), .string (M.bg), .string (M.en)])) rfl (by kernel_rfl) (by kernel_rfl) (by kernel_rfl) (fun _ _ _ h => h) (.inl ⟨by rfl, fun w hw => by dsimp only at hw; go_simp⟩) hHeld ?_
                simp only [Act.put, List.setIfInBounds_toArray, List.set_cons_zero, List.set_cons_succ]
                refine wpAnyH_take (i := 7) (oi := ⟨some 47, _, _, _, _, _⟩) (v := (.agg #[.int .i64 (q.lo), .int .i64 (q.hi), .int .i64 (q.cl), .string (q.bg), .string (q.en)])) rfl (by kernel_rfl) (by kernel_rfl) (by kernel_rfl) (fun _ _ _ h => h) (.inl ⟨by rfl, fun w hw => by dsimp only at hw; go_simp⟩) hHeld ?_
                simp only [Act.put, List.setIfInBounds_toArray, List.set_cons_zero, List.set_cons_succ]
                refine wpAnyH_take (i := 8) (oi := ⟨some 48, _, _, _, _, _⟩) (v := (.agg #[.int .i64 (p.lo), .int .i64 (p.hi), .int .i64 (p.cl), .string (p.bg), .string (p.en)])) rfl (by kernel_rfl) (by kernel_rfl) (by kernel_rfl) (fun _ _ _ h => h) (.inl ⟨by rfl, fun w hw => by dsimp only at hw; go_simp⟩) hHeld ?_
                simp only [Act.put, List.setIfInBounds_toArray, List.set_cons_zero, List.set_cons_succ]
                refine wpAnyH_ready (rs := [9]) (by kernel_rfl) (by simp) ?_
                refine AllReadyH.cons (o := ⟨some 49, _, _, _, _, _⟩) rfl (fun K hK => ?_) AllReadyH.nil
                go_simp
                refine (Hm'.out _).mono ?_
                rintro e Vz2 ⟨rfl, fz2⟩
                have HFz2 := Lib.hid (HFz1.out.trans fz2)
                refine hK.out _ _ ⟨fz2.cell hHeld.1 (fun h => h), fz2.cell hHeld.2.1 (fun h => h), fz2.cell hHeld.2.2.1 (fun h => h), fz2.cell hHeld.2.2.2.1 (fun h => h), fz2.cell hHeld.2.2.2.2.1 (fun h => h), fz2.cell hHeld.2.2.2.2.2.1 (fun h => h), fz2.cell hHeld.2.2.2.2.2.2.1 (fun h => h), fz2.cell hHeld.2.2.2.2.2.2.2.1 (fun h => h), fz2.cell hHeld.2.2.2.2.2.2.2.2.1 (fun h => h), fz2.cell hHeld.2.2.2.2.2.2.2.2.2.1 (fun h => h), fz2.cell hHeld.2.2.2.2.2.2.2.2.2.2.1 (fun h => h), fz2.cell hHeld.2.2.2.2.2.2.2.2.2.2.2.1 (fun h => h), fz2.cell hHeld.2.2.2.2.2.2.2.2.2.2.2.2.1 (fun h => h), fz2.cell hHeld.2.2.2.2.2.2.2.2.2.2.2.2.2.1 (fun h => h), fz2.cell hHeld.2.2.2.2.2.2.2.2.2.2.2.2.2.2.1 (fun h => h), fz2.cell hHeld.2.2.2.2.2.2.2.2.2.2.2.2.2.2.2.1 (fun h => h), fz2.cell hHeld.2.2.2.2.2.2.2.2.2.2.2.2.2.2.2.2.1 (fun h => h), fz2.cell hHeld.2.2.2.2.2.2.2.2.2.2.2.2.2.2.2.2.2.1 (fun h => h), fz2.cell hHeld.2.2.2.2.2.2.2.2.2.2.2.2.2.2.2.2.2.2.1 (fun h => h), fz2.cell hHeld.2.2.2.2.2.2.2.2.2.2.2.2.2.2.2.2.2.2.2 (fun h => h)⟩ (fun hHeld => ?_)
                clear hK K fz2 HFz1
                refine wpAnyH_take (i := 10) (oi := ⟨some 50, _, _, _, _, _⟩) (v := (.bool (false))) rfl (by kernel_rfl) (by kernel_rfl) (by kernel_rfl) (fun _ _ _ h => h) (.inl ⟨by rfl, fun w hw => by dsimp only at hw; go_simp⟩) hHeld ?_
                simp only [Act.put, List.setIfInBounds_toArray, List.set_cons_zero, List.set_cons_succ]
                refine wpAnyH_take (i := 11) (oi := ⟨some 51, _, _, _, _, _⟩) (v := (.bool (false))) rfl (by kernel_rfl) (by kernel_rfl) (by kernel_rfl) (fun _ _ _ h => h) (.inl ⟨by rfl, fun w hw => by dsimp only at hw; go_simp⟩) hHeld ?_
                simp only [Act.put, List.setIfInBounds_toArray, List.set_cons_zero, List.set_cons_succ]
                refine wpAnyH_take (i := 12) (oi := ⟨some 52, _, _, _, _, _⟩) (v := (.bool (false))) rfl (by kernel_rfl) (by kernel_rfl) (by kernel_rfl) (fun _ _ _ h => h) (.inl ⟨by rfl, fun w hw => by dsimp only at hw; go_simp⟩) hHeld ?_
                simp only [Act.put, List.setIfInBounds_toArray, List.set_cons_zero, List.set_cons_succ]
                refine wpAnyH_take (i := 13) (oi := ⟨some 53, _, _, _, _, _⟩) (v := (.agg #[.int .i64 (p.lo), .int .i64 (p.hi), .int .i64 (p.cl), .string (p.bg), .string (p.en)])) rfl (by kernel_rfl) (by kernel_rfl) (by kernel_rfl) (fun _ _ _ h => h) (.inl ⟨by rfl, fun w hw => by dsimp only at hw; go_simp⟩) hHeld ?_
                simp only [Act.put, List.setIfInBounds_toArray, List.set_cons_zero, List.set_cons_succ]
                refine wpAnyH_take (i := 14) (oi := ⟨some 54, _, _, _, _, _⟩) (v := (.agg #[.int .i64 (J.lo), .int .i64 (J.hi), .int .i64 (J.cl), .string (J.bg), .string (J.en)])) rfl (by kernel_rfl) (by kernel_rfl) (by kernel_rfl) (fun _ _ _ h => h) (.inl ⟨by rfl, fun w hw => by dsimp only at hw; go_simp⟩) hHeld ?_
                simp only [Act.put, List.setIfInBounds_toArray, List.set_cons_zero, List.set_cons_succ]
                refine wpAnyH_ready (rs := [15]) (by kernel_rfl) (by simp) ?_
                refine AllReadyH.cons (o := ⟨some 55, _, _, _, _, _⟩) rfl (fun K hK => ?_) AllReadyH.nil
                go_simp
                refine (Hv1.out _).mono ?_
                rintro e Vz3 ⟨rfl, fz3⟩
                have HFz3 := Lib.hid (HFz2.out.trans fz3)
                refine hK.out _ _ ⟨fz3.cell hHeld.1 (fun h => h), fz3.cell hHeld.2.1 (fun h => h), fz3.cell hHeld.2.2.1 (fun h => h), fz3.cell hHeld.2.2.2.1 (fun h => h), fz3.cell hHeld.2.2.2.2.1 (fun h => h), fz3.cell hHeld.2.2.2.2.2.1 (fun h => h), fz3.cell hHeld.2.2.2.2.2.2.1 (fun h => h), fz3.cell hHeld.2.2.2.2.2.2.2.1 (fun h => h), fz3.cell hHeld.2.2.2.2.2.2.2.2.1 (fun h => h), fz3.cell hHeld.2.2.2.2.2.2.2.2.2.1 (fun h => h), fz3.cell hHeld.2.2.2.2.2.2.2.2.2.2.1 (fun h => h), fz3.cell hHeld.2.2.2.2.2.2.2.2.2.2.2.1 (fun h => h), fz3.cell hHeld.2.2.2.2.2.2.2.2.2.2.2.2.1 (fun h => h), fz3.cell hHeld.2.2.2.2.2.2.2.2.2.2.2.2.2.1 (fun h => h), fz3.cell hHeld.2.2.2.2.2.2.2.2.2.2.2.2.2.2.1 (fun h => h), fz3.cell hHeld.2.2.2.2.2.2.2.2.2.2.2.2.2.2.2.1 (fun h => h), fz3.cell hHeld.2.2.2.2.2.2.2.2.2.2.2.2.2.2.2.2.1 (fun h => h), fz3.cell hHeld.2.2.2.2.2.2.2.2.2.2.2.2.2.2.2.2.2.1 (fun h => h), fz3.cell hHeld.2.2.2.2.2.2.2.2.2.2.2.2.2.2.2.2.2.2.1 (fun h => h), fz3.cell hHeld.2.2.2.2.2.2.2.2.2.2.2.2.2.2.2.2.2.2.2 (fun h => h)⟩ (fun hHeld => ?_)
                clear hK K fz3 HFz2
                refine wpAnyH_take (i := 16) (oi := ⟨some 56, _, _, _, _, _⟩) (v := (.bool (false))) rfl (by kernel_rfl) (by kernel_rfl) (by kernel_rfl) (fun _ _ _ h => h) (.inl ⟨by rfl, fun w hw => by dsimp only at hw; go_simp⟩) hHeld ?_
                simp only [Act.put, List.setIfInBounds_toArray, List.set_cons_zero, List.set_cons_succ]
                refine wpAnyH_take (i := 17) (oi := ⟨some 57, _, _, _, _, _⟩) (v := (.bool (false))) rfl (by kernel_rfl) (by kernel_rfl) (by kernel_rfl) (fun _ _ _ h => h) (.inl ⟨by rfl, fun w hw => by dsimp only at hw; go_simp⟩) hHeld ?_
                simp only [Act.put, List.setIfInBounds_toArray, List.set_cons_zero, List.set_cons_succ]
                refine wpAnyH_take (i := 18) (oi := ⟨some 58, _, _, _, _, _⟩) (v := (.bool (false))) rfl (by kernel_rfl) (by kernel_rfl) (by kernel_rfl) (fun _ _ _ h => h) (.inl ⟨by rfl, fun w hw => by dsimp only at hw; go_simp⟩) hHeld ?_
                simp only [Act.put, List.setIfInBounds_toArray, List.set_cons_zero, List.set_cons_succ]
                refine wpAnyH_take (i := 19) (oi := ⟨some 59, _, _, _, _, _⟩) (v := (.agg #[.int .i64 (M.lo), .int .i64 (M.hi), .int .i64 (M.cl), .string (M.bg), .string (M.en)])) rfl (by kernel_rfl) (by kernel_rfl) (by kernel_rfl) (fun _ _ _ h => h) (.inl ⟨by rfl, fun w hw => by dsimp only at hw; go_simp⟩) hHeld ?_
                simp only [Act.put, List.setIfInBounds_toArray, List.set_cons_zero, List.set_cons_succ]
                refine wpAnyH_take (i := 20) (oi := ⟨some 60, _, _, _, _, _⟩) (v := (.agg #[.int .i64 (p.lo), .int .i64 (p.hi), .int .i64 (p.cl), .string (p.bg), .string (p.en)])) rfl (by kernel_rfl) (by kernel_rfl) (by kernel_rfl) (fun _ _ _ h => h) (.inl ⟨by rfl, fun w hw => by dsimp only at hw; go_simp⟩) hHeld ?_
                simp only [Act.put, List.setIfInBounds_toArray, List.set_cons_zero, List.set_cons_succ]
                refine wpAnyH_ready (rs := [21]) (by kernel_rfl) (by simp) ?_
                refine AllReadyH.cons (o := ⟨some 61, _, _, _, _, _⟩) rfl (fun K hK => ?_) AllReadyH.nil
                go_simp
                refine (Hv2.out _).mono ?_
                rintro e Vz4 ⟨rfl, fz4⟩
                have HFz4 := Lib.hid (HFz3.out.trans fz4)
                refine hK.out _ _ ⟨fz4.cell hHeld.1 (fun h => h), fz4.cell hHeld.2.1 (fun h => h), fz4.cell hHeld.2.2.1 (fun h => h), fz4.cell hHeld.2.2.2.1 (fun h => h), fz4.cell hHeld.2.2.2.2.1 (fun h => h), fz4.cell hHeld.2.2.2.2.2.1 (fun h => h), fz4.cell hHeld.2.2.2.2.2.2.1 (fun h => h), fz4.cell hHeld.2.2.2.2.2.2.2.1 (fun h => h), fz4.cell hHeld.2.2.2.2.2.2.2.2.1 (fun h => h), fz4.cell hHeld.2.2.2.2.2.2.2.2.2.1 (fun h => h), fz4.cell hHeld.2.2.2.2.2.2.2.2.2.2.1 (fun h => h), fz4.cell hHeld.2.2.2.2.2.2.2.2.2.2.2.1 (fun h => h), fz4.cell hHeld.2.2.2.2.2.2.2.2.2.2.2.2.1 (fun h => h), fz4.cell hHeld.2.2.2.2.2.2.2.2.2.2.2.2.2.1 (fun h => h), fz4.cell hHeld.2.2.2.2.2.2.2.2.2.2.2.2.2.2.1 (fun h => h), fz4.cell hHeld.2.2.2.2.2.2.2.2.2.2.2.2.2.2.2.1 (fun h => h), fz4.cell hHeld.2.2.2.2.2.2.2.2.2.2.2.2.2.2.2.2.1 (fun h => h), fz4.cell hHeld.2.2.2.2.2.2.2.2.2.2.2.2.2.2.2.2.2.1 (fun h => h), fz4.cell hHeld.2.2.2.2.2.2.2.2.2.2.2.2.2.2.2.2.2.2.1 (fun h => h), fz4.cell hHeld.2.2.2.2.2.2.2.2.2.2.2.2.2.2.2.2.2.2.2 (fun h => h)⟩ (fun hHeld => ?_)
                clear hK K fz4 HFz3
                refine wpAnyH_take (i := 22) (oi := ⟨some 62, _, _, _, _, _⟩) (v := (.bool (false))) rfl (by kernel_rfl) (by kernel_rfl) (by kernel_rfl) (fun _ _ _ h => h) (.inl ⟨by rfl, fun w hw => by dsimp only at hw; go_simp⟩) hHeld ?_
                simp only [Act.put, List.setIfInBounds_toArray, List.set_cons_zero, List.set_cons_succ]
                refine wpAnyH_take (i := 23) (oi := ⟨some 63, _, _, _, _, _⟩) (v := (.bool (false))) rfl (by kernel_rfl) (by kernel_rfl) (by kernel_rfl) (fun _ _ _ h => h) (.inl ⟨by rfl, fun w hw => by dsimp only at hw; go_simp⟩) hHeld ?_
                simp only [Act.put, List.setIfInBounds_toArray, List.set_cons_zero, List.set_cons_succ]
                refine wpAnyH_take (i := 24) (oi := ⟨some 64, _, _, _, _, _⟩) (v := (.bool (false))) rfl (by kernel_rfl) (by kernel_rfl) (by kernel_rfl) (fun _ _ _ h => h) (.inl ⟨by rfl, fun w hw => by dsimp only at hw; go_simp⟩) hHeld ?_
                simp only [Act.put, List.setIfInBounds_toArray, List.set_cons_zero, List.set_cons_succ]
                refine wpAnyH_take (i := 25) (oi := ⟨some 65, _, _, _, _, _⟩) (v := (.agg #[.int .i64 (M.lo), .int .i64 (M.hi), .int .i64 (M.cl), .string (M.bg), .string (M.en)])) rfl (by kernel_rfl) (by kernel_rfl) (by kernel_rfl) (fun _ _ _ h => h) (.inl ⟨by rfl, fun w hw => by dsimp only at hw; go_simp⟩) hHeld ?_
                simp only [Act.put, List.setIfInBounds_toArray, List.set_cons_zero, List.set_cons_succ]
                refine wpAnyH_take (i := 26) (oi := ⟨some 66, _, _, _, _, _⟩) (v := (.agg #[.int .i64 (q.lo), .int .i64 (q.hi), .int .i64 (q.cl), .string (q.bg), .string (q.en)])) rfl (by kernel_rfl) (by kernel_rfl) (by kernel_rfl) (fun _ _ _ h => h) (.inl ⟨by rfl, fun w hw => by dsimp only at hw; go_simp⟩) hHeld ?_
                simp only [Act.put, List.setIfInBounds_toArray, List.set_cons_zero, List.set_cons_succ]
                refine wpAnyH_ready (rs := [27]) (by kernel_rfl) (by simp) ?_
                refine AllReadyH.cons (o := ⟨some 67, _, _, _, _, _⟩) rfl (fun K hK => ?_) AllReadyH.nil
                go_simp
                refine (Hv3.out _).mono ?_
                rintro e Vz5 ⟨rfl, fz5⟩
                have HFz5 := Lib.hid (HFz4.out.trans fz5)
                refine hK.out _ _ ⟨fz5.cell hHeld.1 (fun h => h), fz5.cell hHeld.2.1 (fun h => h), fz5.cell hHeld.2.2.1 (fun h => h), fz5.cell hHeld.2.2.2.1 (fun h => h), fz5.cell hHeld.2.2.2.2.1 (fun h => h), fz5.cell hHeld.2.2.2.2.2.1 (fun h => h), fz5.cell hHeld.2.2.2.2.2.2.1 (fun h => h), fz5.cell hHeld.2.2.2.2.2.2.2.1 (fun h => h), fz5.cell hHeld.2.2.2.2.2.2.2.2.1 (fun h => h), fz5.cell hHeld.2.2.2.2.2.2.2.2.2.1 (fun h => h), fz5.cell hHeld.2.2.2.2.2.2.2.2.2.2.1 (fun h => h), fz5.cell hHeld.2.2.2.2.2.2.2.2.2.2.2.1 (fun h => h), fz5.cell hHeld.2.2.2.2.2.2.2.2.2.2.2.2.1 (fun h => h), fz5.cell hHeld.2.2.2.2.2.2.2.2.2.2.2.2.2.1 (fun h => h), fz5.cell hHeld.2.2.2.2.2.2.2.2.2.2.2.2.2.2.1 (fun h => h), fz5.cell hHeld.2.2.2.2.2.2.2.2.2.2.2.2.2.2.2.1 (fun h => h), fz5.cell hHeld.2.2.2.2.2.2.2.2.2.2.2.2.2.2.2.2.1 (fun h => h), fz5.cell hHeld.2.2.2.2.2.2.2.2.2.2.2.2.2.2.2.2.2.1 (fun h => h), fz5.cell hHeld.2.2.2.2.2.2.2.2.2.2.2.2.2.2.2.2.2.2.1 (fun h => h), fz5.cell hHeld.2.2.2.2.2.2.2.2.2.2.2.2.2.2.2.2.2.2.2 (fun h => h)⟩ (fun hHeld => ?_)
                clear hK K fz5 HFz4
                refine wpAnyH_take (i := 28) (oi := ⟨some 68, _, _, _, _, _⟩) (v := (.bool (false))) rfl (by kernel_rfl) (by kernel_rfl) (by kernel_rfl) (fun _ _ _ h => h) (.inl ⟨by rfl, fun w hw => by dsimp only at hw; go_simp⟩) hHeld ?_
                simp only [Act.put, List.setIfInBounds_toArray, List.set_cons_zero, List.set_cons_succ]
                refine wpAnyH_take (i := 29) (oi := ⟨some 69, _, _, _, _, _⟩) (v := (.bool (false))) rfl (by kernel_rfl) (by kernel_rfl) (by kernel_rfl) (fun _ _ _ h => h) (.inl ⟨by rfl, fun w hw => by dsimp only at hw; go_simp⟩) hHeld ?_
                simp only [Act.put, List.setIfInBounds_toArray, List.set_cons_zero, List.set_cons_succ]
                refine wpAnyH_take (i := 30) (oi := ⟨some 70, _, _, _, _, _⟩) (v := (.bool (false))) rfl (by kernel_rfl) (by kernel_rfl) (by kernel_rfl) (fun _ _ _ h => h) (.inl ⟨by rfl, fun w hw => by dsimp only at hw; go_simp⟩) hHeld ?_
                simp only [Act.put, List.setIfInBounds_toArray, List.set_cons_zero, List.set_cons_succ]
                refine wpAnyH_take (i := 31) (oi := ⟨some 71, _, _, _, _, _⟩) (v := (.agg #[.int .i64 (p.lo), .int .i64 (p.hi), .int .i64 (p.cl), .string (p.bg), .string (p.en)])) rfl (by kernel_rfl) (by kernel_rfl) (by kernel_rfl) (fun _ _ _ h => h) (.inl ⟨by rfl, fun w hw => by dsimp only at hw; go_simp⟩) hHeld ?_
                simp only [Act.put, List.setIfInBounds_toArray, List.set_cons_zero, List.set_cons_succ]
                refine wpAnyH_take (i := 32) (oi := ⟨some 72, _, _, _, _, _⟩) (v := (.agg #[.int .i64 (p.lo), .int .i64 (p.hi), .int .i64 (p.cl), .string (p.bg), .string (p.en)])) rfl (by kernel_rfl) (by kernel_rfl) (by kernel_rfl) (fun _ _ _ h => h) (.inl ⟨by rfl, fun w hw => by dsimp only at hw; go_simp⟩) hHeld ?_
                simp only [Act.put, List.setIfInBounds_toArray, List.set_cons_zero, List.set_cons_succ]
                refine wpAnyH_ready (rs := [33]) (by kernel_rfl) (by simp) ?_
                refine AllReadyH.cons (o := ⟨some 73, _, _, _, _, _⟩) rfl (fun K hK => ?_) AllReadyH.nil
                go_simp
                refine (Hv4.out _).mono ?_
                rintro e Vz6 ⟨rfl, fz6⟩
                have HFz6 := Lib.hid (HFz5.out.trans fz6)
                refine hK.out _ _ ⟨fz6.cell hHeld.1 (fun h => h), fz6.cell hHeld.2.1 (fun h => h), fz6.cell hHeld.2.2.1 (fun h => h), fz6.cell hHeld.2.2.2.1 (fun h => h), fz6.cell hHeld.2.2.2.2.1 (fun h => h), fz6.cell hHeld.2.2.2.2.2.1 (fun h => h), fz6.cell hHeld.2.2.2.2.2.2.1 (fun h => h), fz6.cell hHeld.2.2.2.2.2.2.2.1 (fun h => h), fz6.cell hHeld.2.2.2.2.2.2.2.2.1 (fun h => h), fz6.cell hHeld.2.2.2.2.2.2.2.2.2.1 (fun h => h), fz6.cell hHeld.2.2.2.2.2.2.2.2.2.2.1 (fun h => h), fz6.cell hHeld.2.2.2.2.2.2.2.2.2.2.2.1 (fun h => h), fz6.cell hHeld.2.2.2.2.2.2.2.2.2.2.2.2.1 (fun h => h), fz6.cell hHeld.2.2.2.2.2.2.2.2.2.2.2.2.2.1 (fun h => h), fz6.cell hHeld.2.2.2.2.2.2.2.2.2.2.2.2.2.2.1 (fun h => h), fz6.cell hHeld.2.2.2.2.2.2.2.2.2.2.2.2.2.2.2.1 (fun h => h), fz6.cell hHeld.2.2.2.2.2.2.2.2.2.2.2.2.2.2.2.2.1 (fun h => h), fz6.cell hHeld.2.2.2.2.2.2.2.2.2.2.2.2.2.2.2.2.2.1 (fun h => h), fz6.cell hHeld.2.2.2.2.2.2.2.2.2.2.2.2.2.2.2.2.2.2.1 (fun h => h), fz6.cell hHeld.2.2.2.2.2.2.2.2.2.2.2.2.2.2.2.2.2.2.2 (fun h => h)⟩ (fun hHeld => ?_)
                clear hK K fz6 HFz5
                refine wpAnyH_take (i := 34) (oi := ⟨some 74, _, _, _, _, _⟩) (v := (.bool (false))) rfl (by kernel_rfl) (by kernel_rfl) (by kernel_rfl) (fun _ _ _ h => h) (.inl ⟨by rfl, fun w hw => by dsimp only at hw; go_simp⟩) hHeld ?_
                simp only [Act.put, List.setIfInBounds_toArray, List.set_cons_zero, List.set_cons_succ]
                refine wpAnyH_take (i := 35) (oi := ⟨some 75, _, _, _, _, _⟩) (v := (.bool (false))) rfl (by kernel_rfl) (by kernel_rfl) (by kernel_rfl) (fun _ _ _ h => h) (.inl ⟨by rfl, fun w hw => by dsimp only at hw; go_simp⟩) hHeld ?_
                simp only [Act.put, List.setIfInBounds_toArray, List.set_cons_zero, List.set_cons_succ]
                refine wpAnyH_done (by kernel_rfl) ?_ _
                have Hf := Lib.hid HFz6.out
                clear HFz6 hHeld a0 a1 a2 a3 a4 b0 b1 b2 b3 b4 u0 u1 u2 u3 u4 y0 y1 y2 y3 y4 Hj' Hm' Hv1 Hv2 Hv3 Hv4
                go_wp2_with fail
                go_roundw
                case rel => exact ⟨k + 1, by go_num, hk3, Hf.out⟩
                case measure => simp [intOf]; omega
            · skip
              go_wp2_with fail
              go_roundw
              case rel => exact ⟨k + 1, by go_num, hk3, Hf.out⟩
              case measure => simp [intOf]; omega
          · skip
            go_wp2_with fail
            go_roundw
            case rel => exact ⟨k + 1, by go_num, hk3, Hf.out⟩
            case measure => simp [intOf]; omega
        · have hk3I : ¬ (k : Int) < 3 := by omega
          have Hf := Lib.hid hf
          clear hf
          go_wp2_with fail
          go_roundw
          case rel => exact ⟨i + 1, by go_num, hi3, Hf.out⟩
          case measure => simp [intOf]; omega
    · have hi3I : ¬ (i : Int) < 3 := by omega
      go_wp2_with fail
      go_ret
      exact ⟨rfl, HF.out.trans hf⟩
end Go.Proofs.YtgnjakaamgeibaaDoor
