/-
  ShapeParts: the law returns true. Conditions: the laid table; the case lies in memory; m is an int.
-/
import Derived.Test.YtgnjakaamgeibaaGreatDoorShZ
import Derived.Test.YtgnjakaamgeibaaGreatDoorShS
import Derived.Test.YtgnjakaamgeibaaGreatDoorSh4
import Derived.Test.YtgnjakaamgeibaaGreatDoorCas
namespace Go.Proofs.YtgnjakaamgeibaaGreatDoor
open Go.RowKit Go.Shelf
attribute [local go_sem] Oper.semAt_some

theorem samp_p (p : Shp) (m : Int) (hm : In64 m) (hb : p.bg.size ≤ 12) (hd : p.en.size ≤ 12) (w : World) : Calls Tryz.prog 6 #[shV p, .int .i64 m] w fun e w' => ∃ (X : ByteArray) (ok : Bool), e = .returned (.tuple #[.string X, .bool ok]) ∧ X.size ≤ 200 ∧ (ok = true → inS p X.data.toList = true) ∧ Frm (fun _ => False) w w' := by
  refine (samp_any p m hm (by omega) (by omega) w).mono ?_
  rintro e w' ⟨rfl, f⟩
  refine ⟨⟨(sampV p m).1.toArray⟩, _, rfl, ?_, fun h => sampV_in h, f⟩
  have := sampV_len p m
  show (sampV p m).1.toArray.size ≤ 200
  rw [List.size_toArray]
  exact this
theorem cls_asc {c : UInt8} (h : clsB c ≠ 0) : c.toNat < 128 := by
  unfold clsB at h
  split at h
  · exact absurd rfl h
  · omega
theorem asc_of {p : Shp} {t : List UInt8} (h : inS p t = true) : AscS p.bg ∧ AscS p.en := by
  obtain ⟨-, -, -, h4, h5, -, h7⟩ := in_low h
  have key : ∀ c ∈ t, c.toNat < 128 := by
    unfold chrs at h7
    rw [List.all_eq_true] at h7
    exact fun c hc => cls_asc (by simpa using h7 c hc)
  exact ⟨fun c hc => key c (h4.subset hc), fun c hc => key c (h5.subset hc)⟩
theorem up_in {p : Shp} {X : ByteArray} (h : inS p X.data.toList = true) : inS (casS 8 4 upC p) (baM upC X).data.toList = true := by
  have := cas_in 3 2 upC (by decide) (by decide) (fun c _ => up_cls c) (by decide) h
  rw [show (8 : Int) = 2 ^ 3 by decide, show (4 : Int) = 2 ^ 2 by decide]
  exact this
theorem lo_in {p : Shp} {X : ByteArray} (h : inS p X.data.toList = true) : inS (casS 4 8 loC p) (baM loC X).data.toList = true := by
  have := cas_in 2 3 loC (by decide) (by decide) (fun c _ => lo_cls c) (by decide) h
  rw [show (8 : Int) = 2 ^ 3 by decide, show (4 : Int) = 2 ^ 2 by decide]
  exact this
theorem cut_in {p : Shp} {X : ByteArray} (h : inS p X.data.toList = true) (i j : Nat) : inS (partS p) (X.extract i j).data.toList = true := by
  rw [ext_toList]
  exact part_in h i j
theorem baM_size (f : UInt8 → UInt8) (X : ByteArray) : (baM f X).size = X.size := by
  unfold baM
  show ((X.data.toList.map f).toArray).size = X.size
  rw [List.size_toArray, List.length_map, size_list]
theorem slice_p (t : ByteArray) (a b : Nat) (h1 : a ≤ b) (h2 : b ≤ t.size) (W : World) : (Instr.slice 9 (.string t) (some (.int .i64 (a : Int))) (some (.int .i64 (b : Int))) none).run Tryz.prog W = .ok (.string (t.extract a b)) W := by
  have := run_slice_string (P := Tryz.prog) W 9 t .i64 .i64 (a : Int) (b : Int) Tryz.underlying9 (by omega) (by omega) (by omega)
  rw [this, Int.toNat_natCast, Int.toNat_natCast]

set_option maxRecDepth 100000 in
set_option maxHeartbeats 8000000 in
theorem law_parts {ao ao1 : Option Addr} {n cap n1 cap1 : Nat} {l h c : Int} {b d t : ByteArray} (m : Int) (k0 k1 : UInt8) (w : World) (hT : Tabs w) (hC : CaseAt w ao ao1 n n1 l h c b d t) (hm : In64 m) :
    Calls Tryz.prog 3 #[.agg #[.slice ao n cap, .slice ao1 n1 cap1, .int .i64 l, .int .i64 h, .int .i64 c, .string b, .string d, .string t], .int .i64 m, .agg #[.int .u8 k0.toNat, .int .u8 k1.toNat]] w fun e w' => e = .returned (.bool true) ∧ Frm (fun _ => False) w w' := by
  have HT := Lib.hid hT
  have HC := Lib.hid hC
  clear hT hC
  go_enter Tryz.func3, Tryz.ntmps3
  go_upto_region 1 with fail
  obtain ⟨W1, x, hW, hx, hf, a0, a1, a2, a3, a4, a5, a6, a7⟩ := one_case w ao ao1 n cap n1 cap1 l h c b d t
  rw [hW]
  have hsz : W1.heap.size = w.heap.size + 1 := by rw [← hW]; simp
  rw [← hsz, hx]
  have hM := heap_alloc_new W1 (.cells #[.int .u8 k0.toNat, .int .u8 k1.toNat] 27)
  have f1 := (Frm.refl (fun _ => False) W1).alloc (.cells #[.int .u8 k0.toNat, .int .u8 k1.toNat] 27)
  obtain ⟨W2, hW2⟩ : ∃ W, W = W1.alloc (.cells #[.int .u8 k0.toNat, .int .u8 k1.toNat] 27) := ⟨_, rfl⟩
  obtain ⟨y, hy⟩ : ∃ b, b = W1.heap.size := ⟨_, rfl⟩
  rw [← hW2, ← hy] at hM
  rw [← hW2] at f1
  rw [← hW2, ← hy]
  have y0 : W2.cell? ⟨y, 0, none⟩ = some (.int .u8 k0.toNat) := by rw [cell_of_row _ _ _ _ _ _ hM]; rfl
  have y1 : W2.cell? ⟨y, 1, none⟩ = some (.int .u8 k1.toNat) := by rw [cell_of_row _ _ _ _ _ _ hM]; rfl
  have a0 := f1.cell a0 (fun h => h)
  have a1 := f1.cell a1 (fun h => h)
  have a2 := f1.cell a2 (fun h => h)
  have a3 := f1.cell a3 (fun h => h)
  have a4 := f1.cell a4 (fun h => h)
  have a5 := f1.cell a5 (fun h => h)
  have a6 := f1.cell a6 (fun h => h)
  have a7 := f1.cell a7 (fun h => h)
  have HF := Lib.hid (hf.trans f1)
  clear hW hx hf hsz hM f1 hW2 hy
  go_wp2_with fail
  refine (sanity8_any _ (HT.out.frm HF.out)).mono ?_
  rintro e W3 ⟨rfl, f⟩
  have a0 := f.cell a0 (fun h => h)
  have a1 := f.cell a1 (fun h => h)
  have a2 := f.cell a2 (fun h => h)
  have a3 := f.cell a3 (fun h => h)
  have a4 := f.cell a4 (fun h => h)
  have a5 := f.cell a5 (fun h => h)
  have a6 := f.cell a6 (fun h => h)
  have a7 := f.cell a7 (fun h => h)
  have y0 := f.cell y0 (fun h => h)
  have y1 := f.cell y1 (fun h => h)
  have HF := Lib.hid (HF.out.trans f)
  clear f
  go_wp2_with fail
  refine (shapes_any _ (HC.out.still HF.out)).mono ?_
  rintro e W4 ⟨s0, s1, s2, g0, g1, g2, rfl, f⟩
  have y0 := f.cell y0 (fun h => h)
  have y1 := f.cell y1 (fun h => h)
  have HF := Lib.hid (HF.out.trans f)
  clear f a0 a1 a2 a3 a4 a5 a6 a7 HC
  have hr20 := row20_one s0 s1 s2
  obtain ⟨W5, L, hW4, hL, hrow, hfa⟩ := arr_new W4 s0 s1 s2
  have y0 := hfa.cell y0 (fun h => h)
  have y1 := hfa.cell y1 (fun h => h)
  have HW4 := Lib.hid hW4
  have HL := Lib.hid hL
  clear hW4 hL
  have HY := Lib.hid (And.intro y0 y1)
  clear y0 y1
  obtain ⟨S, hS, hG⟩ := sh4_of (L := L) g0 g1 g2 hrow
  have HS := Lib.hid hS
  have HG := Lib.hid hG
  have HF := Lib.hid (HF.out.trans hfa)
  clear hS hG hrow hfa g0 g1 g2
  go_wp2_with (first | (refine wpList_store_row rfl 29 (.tmp 8) (.tmp 16) rfl _ (row20 s0 s1 s2) rfl rfl 29 _ (heap_alloc_new _ _) row_info28 rfl hr20 ?_; rw [HW4.out, HL.out]))
  clear HW4 HL hr20
  go_loopw [9] (fun s wr => ∃ i : Nat, s = .int .i64 i ∧ i ≤ 3 ∧ Frm (fun _ => False) W5 wr) (fun s _ => 3 - (intOf s).toNat)
  case atStart => exact ⟨0, rfl, Nat.zero_le _, Frm.refl _ _⟩
  case round =>
    obtain ⟨i, rfl, hi, hf⟩ := hrel
    by_cases hi3 : i < 3
    · have hi3I : (i : Int) < 3 := by omega
      obtain ⟨p0, p1, p2, p3, p4⟩ := (HS.out.still hf) i (by omega)
      have hp := HG.out i (by omega)
      generalize S i = p at *
      have hpb := hp.bg
      have hpe := hp.en
      clear hp
      have hsm := samp_p p m hm hpb hpe
      have hpt := fun (W : World) => part_any p ⟨by omega, by omega⟩ W
      have hu := fun (h : empB p = false → AscS p.bg ∧ AscS p.en) => shUp_any p ⟨by omega, by omega⟩ h
      have hlw := fun (h : empB p = false → AscS p.bg ∧ AscS p.en) => shLo_any p ⟨by omega, by omega⟩ h
      have hcu := fun (X : ByteArray) (hX : X.size ≤ 200) (h : inS p X.data.toList = true) (W : World) => (con_any (casS 8 4 upC p) (baM upC X) (by rw [baM_size]; omega) W).mono fun e w' hh => (show e = .returned (.bool true) ∧ Frm (fun _ => False) W w' from ⟨by rw [hh.1, up_in h], hh.2⟩)
      have hcl := fun (X : ByteArray) (hX : X.size ≤ 200) (h : inS p X.data.toList = true) (W : World) => (con_any (casS 4 8 loC p) (baM loC X) (by rw [baM_size]; omega) W).mono fun e w' hh => (show e = .returned (.bool true) ∧ Frm (fun _ => False) W w' from ⟨by rw [hh.1, lo_in h], hh.2⟩)
      have hcp := fun (X : ByteArray) (hX : X.size ≤ 200) (h : inS p X.data.toList = true) (u v : Nat) (W : World) => (con_any (partS p) (X.extract u v) (by rw [ByteArray.size_extract]; omega) W).mono fun e w' hh => (show e = .returned (.bool true) ∧ Frm (fun _ => False) W w' from ⟨by rw [hh.1, cut_in h], hh.2⟩)
      have hasc := fun (X : ByteArray) (h : inS p X.data.toList = true) => asc_of h
      generalize partS p = P at *
      generalize casS 8 4 upC p = Q at *
      generalize casS 4 8 loC p = R at *
      generalize inS p = ip at *
      generalize empB p = ep at *
      obtain ⟨q0, q1, q2, q3, q4⟩ := P
      obtain ⟨v0, v1, v2, v3, v4⟩ := Q
      obtain ⟨r0, r1, r2, r3, r4⟩ := R
      obtain ⟨l', h', c', b', d'⟩ := p
      unfold shV at hsm hpt hu hlw hcu hcl hcp
      simp only at p0 p1 p2 p3 p4 hsm hpt hu hlw hcu hcl hcp hpb hpe hasc
      have Hsm := Lib.hid hsm
      have Hpt := Lib.hid hpt
      have Hu := Lib.hid hu
      have Hlw := Lib.hid hlw
      have Hcu := Lib.hid hcu
      have Hcl := Lib.hid hcl
      have Hcp := Lib.hid hcp
      have Hasc := Lib.hid hasc
      clear hsm hpt hu hlw hcu hcl hcp hasc
      go_wp2_with fail
      refine (Hsm.out _).mono ?_
      rintro e V1 ⟨X, ok, rfl, hXz, hok, f⟩
      have p0 := f.cell p0 (fun h => h)
      have p1 := f.cell p1 (fun h => h)
      have p2 := f.cell p2 (fun h => h)
      have p3 := f.cell p3 (fun h => h)
      have p4 := f.cell p4 (fun h => h)
      have hf := hf.trans f
      clear f Hsm
      cases ok
      · have Hf := Lib.hid hf
        clear hf hok p0 p1 p2 p3 p4
        go_wp2_with fail
        go_roundw
        case rel => exact ⟨i + 1, by go_num, hi3, Hf.out⟩
        case measure => simp [intOf]; omega
      · have hin := hok rfl
        have hcu := Hcu.out X hXz hin
        have hcl := Hcl.out X hXz hin
        have hu := Hu.out (fun _ => Hasc.out X hin)
        have hlw := Hlw.out (fun _ => Hasc.out X hin)
        have hra := raised_any X (by omega)
        have hlo := lowered_any X (by omega)
        generalize baM upC X = XU at *
        generalize baM loC X = XL at *
        obtain ⟨F1, hF1⟩ : ∃ F1, F1 = k0.toNat % (X.size + 1) := ⟨_, rfl⟩
        have hF1z : F1 ≤ X.size := by have := Nat.mod_lt k0.toNat (show 0 < X.size + 1 by omega); omega
        have htm1 : (k0.toNat : Int).tmod ((X.size : Int) + 1) = (F1 : Int) := by rw [Int.tmod_eq_emod_of_nonneg (by omega), hF1]; rfl
        obtain ⟨G1, hG1⟩ : ∃ G1, G1 = k1.toNat % (X.size - F1 + 1) := ⟨_, rfl⟩
        have hG1z : F1 + G1 ≤ X.size := by have := Nat.mod_lt k1.toNat (show 0 < X.size - F1 + 1 by omega); omega
        have htm2 : (k1.toNat : Int).tmod ((X.size : Int) - (F1 : Int) + 1) = (G1 : Int) := by rw [Int.tmod_eq_emod_of_nonneg (by omega), hG1, show (X.size : Int) - (F1 : Int) + 1 = ((X.size - F1 + 1 : Nat) : Int) by omega]; rfl
        have hcp := Hcp.out X hXz hin F1 (F1 + G1)
        have hsl := slice_p X F1 (F1 + G1) (by omega) hG1z
        have hsl2 : ∀ W, (Instr.slice 9 (.string X) (some (.int .i64 (F1 : Int))) (some (.int .i64 ((F1 : Int) + (G1 : Int)))) none).run Tryz.prog W = .ok (.string (X.extract F1 (F1 + G1))) W := fun W => by rw [show (F1 : Int) + (G1 : Int) = ((F1 + G1 : Nat) : Int) by omega]; exact hsl W
        generalize X.extract F1 (F1 + G1) = Y at *
        have hk0 := k0.toNat_lt
        have hk1 := k1.toNat_lt
        have hcu := Lib.hid hcu
        have hcl := Lib.hid hcl
        have hu := Lib.hid hu
        have hlw := Lib.hid hlw
        have hra := Lib.hid hra
        have hlo := Lib.hid hlo
        have hcp := Lib.hid hcp
        clear hF1 hG1 hsl Hcu Hcl Hu Hlw Hcp Hasc hok hin
        obtain ⟨y0, y1⟩ := HY.out
        have y0 := hf.cell y0 (fun h => h)
        have y1 := hf.cell y1 (fun h => h)
        go_upto_region 10 with fail
        clear y0 y1 htm1 htm2 hk0 hk1
        have HX := Lib.hid hf.drew
        clear hf
        refine wp_region_held_drew (S := fun w' => w'.cell? ⟨L, i * 5, none⟩ = some (.int .i64 (l')) ∧ w'.cell? ⟨L, i * 5 + 1, none⟩ = some (.int .i64 (h')) ∧ w'.cell? ⟨L, i * 5 + 2, none⟩ = some (.int .i64 (c')) ∧ w'.cell? ⟨L, i * 5 + 3, none⟩ = some (.string (b')) ∧ w'.cell? ⟨L, i * 5 + 4, none⟩ = some (.string (d'))) (by kernel_rfl) ⟨p0, p1, p2, p3, p4⟩ (fun hHeld => ?_)
        refine wpAnyH_take (i := 0) (oi := ⟨some 49, _, _, _, _, _⟩) (v := (.int .i64 (i))) rfl (by kernel_rfl) (by kernel_rfl) (by kernel_rfl) (fun _ _ _ h => h) (.inl ⟨by rfl, fun w hw => by dsimp only at hw; go_simp⟩) hHeld ?_
        simp only [Act.put, List.setIfInBounds_toArray, List.set_cons_zero, List.set_cons_succ]
        refine wpAnyH_take (i := 1) (oi := ⟨some 50, _, _, _, _, _⟩) (v := (.pointer (some ⟨L, i * 5, none⟩))) rfl (by kernel_rfl) (by kernel_rfl) (by kernel_rfl) (fun _ _ _ h => h) (.inl ⟨by rfl, fun w hw => by dsimp only at hw; go_simp; all_goals (intro hh; omega)⟩) hHeld ?_
        simp only [Act.put, List.setIfInBounds_toArray, List.set_cons_zero, List.set_cons_succ]
        refine wpAnyH_take (i := 2) (oi := ⟨some 51, _, _, _, _, _⟩) (v := (.agg #[.int .i64 (l'), .int .i64 (h'), .int .i64 (c'), .string (b'), .string (d')])) rfl (by kernel_rfl) (by kernel_rfl) (by kernel_rfl) (fun _ _ _ h => h) (.inl ⟨by rfl, fun w hw => by dsimp only at hw; go_simp⟩) hHeld ?_
        simp only [Act.put, List.setIfInBounds_toArray, List.set_cons_zero, List.set_cons_succ]
        refine wpAnyH_take (i := 4) (oi := ⟨some 53, _, _, _, _, _⟩) (v := (.string (X))) rfl (by kernel_rfl) (by kernel_rfl) (by kernel_rfl) (fun _ _ _ h => h) (.inl ⟨by rfl, fun w hw => by dsimp only at hw; go_simp⟩) hHeld ?_
        simp only [Act.put, List.setIfInBounds_toArray, List.set_cons_zero, List.set_cons_succ]
        refine wpAnyH_take (i := 5) (oi := ⟨some 54, _, _, _, _, _⟩) (v := (.int .i64 (F1))) rfl (by kernel_rfl) (by kernel_rfl) (by kernel_rfl) (fun _ _ _ h => h) (.inl ⟨by rfl, fun w hw => by dsimp only at hw; go_simp⟩) hHeld ?_
        simp only [Act.put, List.setIfInBounds_toArray, List.set_cons_zero, List.set_cons_succ]
        refine wpAnyH_take (i := 6) (oi := ⟨some 55, _, _, _, _, _⟩) (v := (.int .i64 ((F1 : Int) + (G1 : Int)))) rfl (by kernel_rfl) (by kernel_rfl) (by kernel_rfl) (fun _ _ _ h => h) (.inl ⟨by rfl, fun w hw => by dsimp only at hw; go_simp⟩) hHeld ?_
        simp only [Act.put, List.setIfInBounds_toArray, List.set_cons_zero, List.set_cons_succ]
        refine wpAnyH_take (i := 7) (oi := ⟨some 56, _, _, _, _, _⟩) (v := (.string (Y))) rfl (by kernel_rfl) (by kernel_rfl) (by kernel_rfl) (fun _ _ _ h => h) (.inl ⟨by rfl, fun w hw => by dsimp only at hw; go_simp⟩) hHeld ?_
        simp only [Act.put, List.setIfInBounds_toArray, List.set_cons_zero, List.set_cons_succ]
        refine wpAnyH_ready (rs := [3]) (by kernel_rfl) (by simp) ?_
        refine AllReadyH.cons (o := ⟨some 52, _, _, _, _, _⟩) rfl (fun K hK => ?_) AllReadyH.nil
        go_simp
        refine (Hpt.out _).mono ?_
        rintro e Vz1 ⟨rfl, fz1⟩
        have HFz1 := Lib.hid (HX.out.trans fz1)
        refine hK.out _ _ ⟨fz1.cell hHeld.1 (fun h => h), fz1.cell hHeld.2.1 (fun h => h), fz1.cell hHeld.2.2.1 (fun h => h), fz1.cell hHeld.2.2.2.1 (fun h => h), fz1.cell hHeld.2.2.2.2 (fun h => h)⟩ (fun hHeld => ?_)
        clear hK K fz1 HX
        refine wpAnyH_ready (rs := [8]) (by kernel_rfl) (by simp) ?_
        refine AllReadyH.cons (o := ⟨some 57, _, _, _, _, _⟩) rfl (fun K hK => ?_) AllReadyH.nil
        go_simp
        refine (hcp.out _).mono ?_
        rintro e Vz2 ⟨rfl, fz2⟩
        have HFz2 := Lib.hid (HFz1.out.trans fz2)
        refine hK.out _ _ ⟨fz2.cell hHeld.1 (fun h => h), fz2.cell hHeld.2.1 (fun h => h), fz2.cell hHeld.2.2.1 (fun h => h), fz2.cell hHeld.2.2.2.1 (fun h => h), fz2.cell hHeld.2.2.2.2 (fun h => h)⟩ (fun hHeld => ?_)
        clear hK K fz2 HFz1
        refine wpAnyH_take (i := 9) (oi := ⟨some 58, _, _, _, _, _⟩) (v := (.bool (false))) rfl (by kernel_rfl) (by kernel_rfl) (by kernel_rfl) (fun _ _ _ h => h) (.inl ⟨by rfl, fun w hw => by dsimp only at hw; go_simp⟩) hHeld ?_
        simp only [Act.put, List.setIfInBounds_toArray, List.set_cons_zero, List.set_cons_succ]
        refine wpAnyH_take (i := 10) (oi := ⟨some 59, _, _, _, _, _⟩) (v := (.bool (false))) rfl (by kernel_rfl) (by kernel_rfl) (by kernel_rfl) (fun _ _ _ h => h) (.inl ⟨by rfl, fun w hw => by dsimp only at hw; go_simp⟩) hHeld ?_
        simp only [Act.put, List.setIfInBounds_toArray, List.set_cons_zero, List.set_cons_succ]
        refine wpAnyH_take (i := 11) (oi := ⟨some 60, _, _, _, _, _⟩) (v := (.int .i64 (i))) rfl (by kernel_rfl) (by kernel_rfl) (by kernel_rfl) (fun _ _ _ h => h) (.inl ⟨by rfl, fun w hw => by dsimp only at hw; go_simp⟩) hHeld ?_
        simp only [Act.put, List.setIfInBounds_toArray, List.set_cons_zero, List.set_cons_succ]
        refine wpAnyH_take (i := 12) (oi := ⟨some 61, _, _, _, _, _⟩) (v := (.pointer (some ⟨L, i * 5, none⟩))) rfl (by kernel_rfl) (by kernel_rfl) (by kernel_rfl) (fun _ _ _ h => h) (.inl ⟨by rfl, fun w hw => by dsimp only at hw; go_simp; all_goals (intro hh; omega)⟩) hHeld ?_
        simp only [Act.put, List.setIfInBounds_toArray, List.set_cons_zero, List.set_cons_succ]
        refine wpAnyH_take (i := 13) (oi := ⟨some 62, _, _, _, _, _⟩) (v := (.agg #[.int .i64 (l'), .int .i64 (h'), .int .i64 (c'), .string (b'), .string (d')])) rfl (by kernel_rfl) (by kernel_rfl) (by kernel_rfl) (fun _ _ _ h => h) (.inl ⟨by rfl, fun w hw => by dsimp only at hw; go_simp⟩) hHeld ?_
        simp only [Act.put, List.setIfInBounds_toArray, List.set_cons_zero, List.set_cons_succ]
        refine wpAnyH_take (i := 15) (oi := ⟨some 64, _, _, _, _, _⟩) (v := (.string (X))) rfl (by kernel_rfl) (by kernel_rfl) (by kernel_rfl) (fun _ _ _ h => h) (.inl ⟨by rfl, fun w hw => by dsimp only at hw; go_simp⟩) hHeld ?_
        simp only [Act.put, List.setIfInBounds_toArray, List.set_cons_zero, List.set_cons_succ]
        refine wpAnyH_ready (rs := [14]) (by kernel_rfl) (by simp) ?_
        refine AllReadyH.cons (o := ⟨some 63, _, _, _, _, _⟩) rfl (fun K hK => ?_) AllReadyH.nil
        go_simp
        refine (hu.out _).mono ?_
        rintro e Vz3 ⟨rfl, fz3⟩
        have HFz3 := Lib.hid (HFz2.out.trans fz3)
        refine hK.out _ _ ⟨fz3.cell hHeld.1 (fun h => h), fz3.cell hHeld.2.1 (fun h => h), fz3.cell hHeld.2.2.1 (fun h => h), fz3.cell hHeld.2.2.2.1 (fun h => h), fz3.cell hHeld.2.2.2.2 (fun h => h)⟩ (fun hHeld => ?_)
        clear hK K fz3 HFz2
        refine wpAnyH_ready (rs := [16]) (by kernel_rfl) (by simp) ?_
        refine AllReadyH.cons (o := ⟨some 65, _, _, _, _, _⟩) rfl (fun K hK => ?_) AllReadyH.nil
        go_simp
        refine (hra.out _).mono ?_
        rintro e Vz4 ⟨rfl, fz4⟩
        have HFz4 := Lib.hid (HFz3.out.trans fz4)
        refine hK.out _ _ ⟨fz4.cell hHeld.1 (fun h => h), fz4.cell hHeld.2.1 (fun h => h), fz4.cell hHeld.2.2.1 (fun h => h), fz4.cell hHeld.2.2.2.1 (fun h => h), fz4.cell hHeld.2.2.2.2 (fun h => h)⟩ (fun hHeld => ?_)
        clear hK K fz4 HFz3
        refine wpAnyH_ready (rs := [17]) (by kernel_rfl) (by simp) ?_
        refine AllReadyH.cons (o := ⟨some 66, _, _, _, _, _⟩) rfl (fun K hK => ?_) AllReadyH.nil
        go_simp
        refine (hcu.out _).mono ?_
        rintro e Vz5 ⟨rfl, fz5⟩
        have HFz5 := Lib.hid (HFz4.out.trans fz5)
        refine hK.out _ _ ⟨fz5.cell hHeld.1 (fun h => h), fz5.cell hHeld.2.1 (fun h => h), fz5.cell hHeld.2.2.1 (fun h => h), fz5.cell hHeld.2.2.2.1 (fun h => h), fz5.cell hHeld.2.2.2.2 (fun h => h)⟩ (fun hHeld => ?_)
        clear hK K fz5 HFz4
        refine wpAnyH_take (i := 18) (oi := ⟨some 67, _, _, _, _, _⟩) (v := (.bool (false))) rfl (by kernel_rfl) (by kernel_rfl) (by kernel_rfl) (fun _ _ _ h => h) (.inl ⟨by rfl, fun w hw => by dsimp only at hw; go_simp⟩) hHeld ?_
        simp only [Act.put, List.setIfInBounds_toArray, List.set_cons_zero, List.set_cons_succ]
        refine wpAnyH_take (i := 19) (oi := ⟨some 68, _, _, _, _, _⟩) (v := (.bool (false))) rfl (by kernel_rfl) (by kernel_rfl) (by kernel_rfl) (fun _ _ _ h => h) (.inl ⟨by rfl, fun w hw => by dsimp only at hw; go_simp⟩) hHeld ?_
        simp only [Act.put, List.setIfInBounds_toArray, List.set_cons_zero, List.set_cons_succ]
        refine wpAnyH_take (i := 20) (oi := ⟨some 69, _, _, _, _, _⟩) (v := (.bool (false))) rfl (by kernel_rfl) (by kernel_rfl) (by kernel_rfl) (fun _ _ _ h => h) (.inl ⟨by rfl, fun w hw => by dsimp only at hw; go_simp⟩) hHeld ?_
        simp only [Act.put, List.setIfInBounds_toArray, List.set_cons_zero, List.set_cons_succ]
        refine wpAnyH_take (i := 21) (oi := ⟨some 70, _, _, _, _, _⟩) (v := (.int .i64 (i))) rfl (by kernel_rfl) (by kernel_rfl) (by kernel_rfl) (fun _ _ _ h => h) (.inl ⟨by rfl, fun w hw => by dsimp only at hw; go_simp⟩) hHeld ?_
        simp only [Act.put, List.setIfInBounds_toArray, List.set_cons_zero, List.set_cons_succ]
        refine wpAnyH_take (i := 22) (oi := ⟨some 71, _, _, _, _, _⟩) (v := (.pointer (some ⟨L, i * 5, none⟩))) rfl (by kernel_rfl) (by kernel_rfl) (by kernel_rfl) (fun _ _ _ h => h) (.inl ⟨by rfl, fun w hw => by dsimp only at hw; go_simp; all_goals (intro hh; omega)⟩) hHeld ?_
        simp only [Act.put, List.setIfInBounds_toArray, List.set_cons_zero, List.set_cons_succ]
        refine wpAnyH_take (i := 23) (oi := ⟨some 72, _, _, _, _, _⟩) (v := (.agg #[.int .i64 (l'), .int .i64 (h'), .int .i64 (c'), .string (b'), .string (d')])) rfl (by kernel_rfl) (by kernel_rfl) (by kernel_rfl) (fun _ _ _ h => h) (.inl ⟨by rfl, fun w hw => by dsimp only at hw; go_simp⟩) hHeld ?_
        simp only [Act.put, List.setIfInBounds_toArray, List.set_cons_zero, List.set_cons_succ]
        refine wpAnyH_take (i := 25) (oi := ⟨some 74, _, _, _, _, _⟩) (v := (.string (X))) rfl (by kernel_rfl) (by kernel_rfl) (by kernel_rfl) (fun _ _ _ h => h) (.inl ⟨by rfl, fun w hw => by dsimp only at hw; go_simp⟩) hHeld ?_
        simp only [Act.put, List.setIfInBounds_toArray, List.set_cons_zero, List.set_cons_succ]
        refine wpAnyH_ready (rs := [24]) (by kernel_rfl) (by simp) ?_
        refine AllReadyH.cons (o := ⟨some 73, _, _, _, _, _⟩) rfl (fun K hK => ?_) AllReadyH.nil
        go_simp
        refine (hlw.out _).mono ?_
        rintro e Vz6 ⟨rfl, fz6⟩
        have HFz6 := Lib.hid (HFz5.out.trans fz6)
        refine hK.out _ _ ⟨fz6.cell hHeld.1 (fun h => h), fz6.cell hHeld.2.1 (fun h => h), fz6.cell hHeld.2.2.1 (fun h => h), fz6.cell hHeld.2.2.2.1 (fun h => h), fz6.cell hHeld.2.2.2.2 (fun h => h)⟩ (fun hHeld => ?_)
        clear hK K fz6 HFz5
        refine wpAnyH_ready (rs := [26]) (by kernel_rfl) (by simp) ?_
        refine AllReadyH.cons (o := ⟨some 75, _, _, _, _, _⟩) rfl (fun K hK => ?_) AllReadyH.nil
        go_simp
        refine (hlo.out _).mono ?_
        rintro e Vz7 ⟨rfl, fz7⟩
        have HFz7 := Lib.hid (HFz6.out.trans fz7)
        refine hK.out _ _ ⟨fz7.cell hHeld.1 (fun h => h), fz7.cell hHeld.2.1 (fun h => h), fz7.cell hHeld.2.2.1 (fun h => h), fz7.cell hHeld.2.2.2.1 (fun h => h), fz7.cell hHeld.2.2.2.2 (fun h => h)⟩ (fun hHeld => ?_)
        clear hK K fz7 HFz6
        refine wpAnyH_ready (rs := [27]) (by kernel_rfl) (by simp) ?_
        refine AllReadyH.cons (o := ⟨some 76, _, _, _, _, _⟩) rfl (fun K hK => ?_) AllReadyH.nil
        go_simp
        refine (hcl.out _).mono ?_
        rintro e Vz8 ⟨rfl, fz8⟩
        have HFz8 := Lib.hid (HFz7.out.trans fz8)
        refine hK.out _ _ ⟨fz8.cell hHeld.1 (fun h => h), fz8.cell hHeld.2.1 (fun h => h), fz8.cell hHeld.2.2.1 (fun h => h), fz8.cell hHeld.2.2.2.1 (fun h => h), fz8.cell hHeld.2.2.2.2 (fun h => h)⟩ (fun hHeld => ?_)
        clear hK K fz8 HFz7
        refine wpAnyH_take (i := 28) (oi := ⟨some 77, _, _, _, _, _⟩) (v := (.bool (false))) rfl (by kernel_rfl) (by kernel_rfl) (by kernel_rfl) (fun _ _ _ h => h) (.inl ⟨by rfl, fun w hw => by dsimp only at hw; go_simp⟩) hHeld ?_
        simp only [Act.put, List.setIfInBounds_toArray, List.set_cons_zero, List.set_cons_succ]
        refine wpAnyH_take (i := 29) (oi := ⟨some 78, _, _, _, _, _⟩) (v := (.bool (false))) rfl (by kernel_rfl) (by kernel_rfl) (by kernel_rfl) (fun _ _ _ h => h) (.inl ⟨by rfl, fun w hw => by dsimp only at hw; go_simp⟩) hHeld ?_
        simp only [Act.put, List.setIfInBounds_toArray, List.set_cons_zero, List.set_cons_succ]
        refine wpAnyH_done (by kernel_rfl) ?_ _
        have Hf := Lib.hid HFz8.out
        clear HFz8 hHeld p0 p1 p2 p3 p4
        go_wp2_with fail
        go_roundw
        case rel => exact ⟨i + 1, by go_num, hi3, Hf.out⟩
        case measure => simp [intOf]; omega
    · have hi3I : ¬ (i : Int) < 3 := by omega
      go_wp2_with fail
      go_ret
      exact ⟨rfl, HF.out.trans hf⟩
end Go.Proofs.YtgnjakaamgeibaaGreatDoor
