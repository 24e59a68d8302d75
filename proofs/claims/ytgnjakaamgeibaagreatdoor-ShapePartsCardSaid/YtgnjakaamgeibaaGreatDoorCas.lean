/-
  Part, Upper, Lower of shapes; letters replaced in texts: what the code does. Conditions: the strings are short, and ASCII where letters are replaced.
-/
import Derived.Test.YtgnjakaamgeibaaGreatDoorShN
import Derived.Lib.AtoiErrMem
import Derived.Lib.BufferMore
import Derived.Lib.Case
import Derived.Laws.IdiomStrings
namespace Go.Proofs.YtgnjakaamgeibaaGreatDoor
open Go.RowKit Go.Shelf
attribute [local go_sem] Oper.semAt_some

/-- A box with a shape, and a block for a result. -/
theorem one_res (w : World) (l h c : Int) (b d : ByteArray) : ∃ W x g, (w.alloc (.cells #[.int .i64 l, .int .i64 h, .int .i64 c, .string b, .string d] 24)).alloc (.cells #[.int .i64 0, .int .i64 0, .int .i64 0, .string ⟨#[]⟩, .string ⟨#[]⟩] 24) = W ∧ w.heap.size + 1 = g ∧ w.heap.size = x ∧ Frm (fun _ => False) w W ∧
    (W.cell? ⟨x, 0, none⟩ = some (.int .i64 l) ∧ W.cell? ⟨x, 1, none⟩ = some (.int .i64 h) ∧ W.cell? ⟨x, 2, none⟩ = some (.int .i64 c) ∧ W.cell? ⟨x, 3, none⟩ = some (.string b) ∧ W.cell? ⟨x, 4, none⟩ = some (.string d)) ∧ Res w W g ∧ x ≠ g := by
  obtain ⟨W1, x, hW, hx, hf, a0, a1, a2, a3, a4⟩ := one_sh w l h c b d
  have hr := Res.start w W1 hf
  have f := (Frm.refl (fun _ => False) W1).alloc (.cells #[.int .i64 0, .int .i64 0, .int .i64 0, .string ⟨#[]⟩, .string ⟨#[]⟩] 24)
  have hs : W1.heap.size = w.heap.size + 1 := by rw [← hW]; simp
  refine ⟨_, x, W1.heap.size, by rw [hW], hs.symm, hx, hf.alloc _, ⟨f.cell a0 (fun h => h), f.cell a1 (fun h => h), f.cell a2 (fun h => h), f.cell a3 (fun h => h), f.cell a4 (fun h => h)⟩, hr, by omega⟩
theorem up_eq (l : List UInt8) : Lib.toUpperA l = l.map upC := by
  unfold Lib.toUpperA
  refine List.map_congr_left fun c _ => ?_
  unfold Lib.upperB upC Lib.isLowerB
  simp [UInt8.le_iff_toNat_le]
theorem lo_eq (l : List UInt8) : Lib.toLowerA l = l.map loC := by
  unfold Lib.toLowerA
  refine List.map_congr_left fun c _ => ?_
  unfold Lib.lowerB loC Lib.isUpperB
  simp [UInt8.le_iff_toNat_le]
/-- The bytes are ASCII. -/
def AscS (s : ByteArray) : Prop := ∀ c ∈ s.data.toList, c.toNat < 128
theorem upper_any (s : ByteArray) (hs : s.size ≤ 1000) (ha : AscS s) (w : World) : Calls Tryz.prog 39 #[.string s] w fun e w' => e = .returned (.string (baM upC s)) ∧ Frm (fun _ => False) w w' := by
  refine (Tryz.strings_ToUpper_ascii s w (by omega) (fun j b hj => ha b (List.mem_of_getElem? hj))).mono ?_
  rintro e w' ⟨rfl, hb⟩
  rw [up_eq]
  exact ⟨rfl, Frm.of_below hb⟩
theorem lower_any (s : ByteArray) (hs : s.size ≤ 1000) (ha : AscS s) (w : World) : Calls Tryz.prog 40 #[.string s] w fun e w' => e = .returned (.string (baM loC s)) ∧ Frm (fun _ => False) w w' := by
  refine (Tryz.strings_ToLower_ascii s w (by omega) (fun j b hj => ha b (List.mem_of_getElem? hj))).mono ?_
  rintro e w' ⟨rfl, hb⟩
  rw [lo_eq]
  exact ⟨rfl, Frm.of_below hb⟩
set_option maxRecDepth 100000 in
set_option maxHeartbeats 4000000 in
theorem part_any (p : Shp) (hp : p.bg.size ≤ 1000 ∧ p.en.size ≤ 1000) (w : World) : Calls Tryz.prog 8 #[shV p] w fun e w' => e = .returned (shV (partS p)) ∧ Frm (fun _ => False) w w' := by
  have hhigh := most_any p
  have hown := own_any p
  have hemp := emp_any p hp.1 hp.2
  have hnone := empty_any
  have hJ : partS p = if empB p then none' else ⟨0, highS p, ownS p, ⟨#[]⟩, ⟨#[]⟩⟩ := rfl
  generalize partS p = R at *
  generalize empB p = E at *
  generalize highS p = H at *
  generalize ownS p = O at *
  obtain ⟨l, h, c, b, d⟩ := p
  unfold shV at *
  simp only at hhigh hown hemp hJ ⊢
  have Hhigh := Lib.hid hhigh
  have Hown := Lib.hid hown
  have Hemp := Lib.hid hemp
  have Hnone := Lib.hid hnone
  have HJ := Lib.hid hJ
  clear hhigh hown hemp hnone hJ hp
  go_enter Tryz.func8, Tryz.ntmps8
  go_upto_region 1 with fail
  obtain ⟨W1, x, g, hW, hg, hx, hf, ⟨a0, a1, a2, a3, a4⟩, hres, hnxg⟩ := one_res w l h c b d
  rw [hW, hg, hx]
  clear hW hg hx hf
  go_wp2_with fail
  refine (Hemp.out _).mono ?_
  rintro e V1 ⟨rfl, f1⟩
  have a0 := f1.cell a0 (fun h => h)
  have a1 := f1.cell a1 (fun h => h)
  have a2 := f1.cell a2 (fun h => h)
  have a3 := f1.cell a3 (fun h => h)
  have a4 := f1.cell a4 (fun h => h)
  have hres := hres.still f1
  clear f1
  clear Hemp
  cases E
  · have HR : Hid (R = ⟨0, H, O, ⟨#[]⟩, ⟨#[]⟩⟩) := Lib.hid (by rw [HJ.out]; rfl)
    clear HJ Hnone
    have HF := Lib.hid hres.frm.drew
    have hres := hres.still (Frm.refl _ _).drew
    go_upto_region 3 with fail
    refine wp_region_held_drew (S := fun w' => w'.cell? ⟨x, 0, none⟩ = some (.int .i64 (l)) ∧ w'.cell? ⟨x, 1, none⟩ = some (.int .i64 (h)) ∧ w'.cell? ⟨x, 2, none⟩ = some (.int .i64 (c)) ∧ w'.cell? ⟨x, 3, none⟩ = some (.string (b)) ∧ w'.cell? ⟨x, 4, none⟩ = some (.string (d)) ∧ Res w w' g) (by kernel_rfl) ⟨a0, a1, a2, a3, a4, hres⟩ (fun hHeld => ?_)
    refine wpAnyH_take (i := 0) (oi := ⟨some 6, _, _, _, _, _⟩) (v := (.agg #[.int .i64 (l), .int .i64 (h), .int .i64 (c), .string (b), .string (d)])) rfl (by kernel_rfl) (by kernel_rfl) (by kernel_rfl) (fun _ _ _ h => h) (.inl ⟨by rfl, fun w hw => by dsimp only at hw; go_simp⟩) hHeld ?_
    simp only [Act.put, List.setIfInBounds_toArray, List.set_cons_zero, List.set_cons_succ]
    refine wpAnyH_take (i := 2) (oi := ⟨some 8, _, _, _, _, _⟩) (v := (.agg #[.int .i64 (l), .int .i64 (h), .int .i64 (c), .string (b), .string (d)])) rfl (by kernel_rfl) (by kernel_rfl) (by kernel_rfl) (fun _ _ _ h => h) (.inl ⟨by rfl, fun w hw => by dsimp only at hw; go_simp⟩) hHeld ?_
    simp only [Act.put, List.setIfInBounds_toArray, List.set_cons_zero, List.set_cons_succ]
    refine wpAnyH_ready (rs := [1]) (by kernel_rfl) (by simp) ?_
    refine AllReadyH.cons (o := ⟨some 7, _, _, _, _, _⟩) rfl (fun K hK => ?_) AllReadyH.nil
    go_simp
    refine (Hhigh.out _).mono ?_
    rintro e V1 ⟨rfl, f1⟩
    have HF1 := Lib.hid (HF.out.trans f1)
    refine hK.out _ _ ⟨f1.cell hHeld.1 (fun h => h), f1.cell hHeld.2.1 (fun h => h), f1.cell hHeld.2.2.1 (fun h => h), f1.cell hHeld.2.2.2.1 (fun h => h), f1.cell hHeld.2.2.2.2.1 (fun h => h), hHeld.2.2.2.2.2.still f1⟩ (fun hHeld => ?_)
    clear hK K f1 HF
    refine wpAnyH_ready (rs := [3]) (by kernel_rfl) (by simp) ?_
    refine AllReadyH.cons (o := ⟨some 9, _, _, _, _, _⟩) rfl (fun K hK => ?_) AllReadyH.nil
    go_simp
    refine (Hown.out _).mono ?_
    rintro e V2 ⟨rfl, f2⟩
    have HF2 := Lib.hid (HF1.out.trans f2)
    refine hK.out _ _ ⟨f2.cell hHeld.1 (fun h => h), f2.cell hHeld.2.1 (fun h => h), f2.cell hHeld.2.2.1 (fun h => h), f2.cell hHeld.2.2.2.1 (fun h => h), f2.cell hHeld.2.2.2.2.1 (fun h => h), hHeld.2.2.2.2.2.still f2⟩ (fun hHeld => ?_)
    clear hK K f2 HF1
    refine wpAnyH_take (i := 4) (oi := ⟨some 10, _, _, _, _, _⟩) (v := (.agg #[.int .i64 (0), .int .i64 (H), .int .i64 (O), .string (⟨#[]⟩), .string (⟨#[]⟩)])) rfl (by kernel_rfl) (by kernel_rfl) (by kernel_rfl) (fun _ _ _ h => h) (.inl ⟨by rfl, fun w hw => by dsimp only at hw; go_simp⟩) hHeld ?_
    simp only [Act.put, List.setIfInBounds_toArray, List.set_cons_zero, List.set_cons_succ]
    refine wpAnyH_ready (rs := [5]) (by kernel_rfl) (by simp) ?_
    refine AllReadyH.cons (o := ⟨none, _, _, _, _, _⟩) rfl (fun K hK => ?_) AllReadyH.nil
    have hr3 := hHeld.2.2.2.2.2
    obtain ⟨u0, u1, u2, u3, u4, ⟨c0, c1, c2, c3, c4⟩, z0, z1, z2, z3, z4⟩ := hr3.facts
    go_simp
    clear c0 c1 c2 c3 c4 z0 z1 z2 z3 z4
    obtain ⟨V3, hV3, hrow3, hres3, hcell3⟩ := hr3.put (.int .i64 (0)) (.int .i64 (H)) (.int .i64 (O)) (.string (⟨#[]⟩)) (.string (⟨#[]⟩))
    rw [hV3]
    clear hV3 hr3
    refine hK.out _ _ ⟨hcell3 _ _ _ hnxg hHeld.1, hcell3 _ _ _ hnxg hHeld.2.1, hcell3 _ _ _ hnxg hHeld.2.2.1, hcell3 _ _ _ hnxg hHeld.2.2.2.1, hcell3 _ _ _ hnxg hHeld.2.2.2.2.1, hres3⟩ (fun hHeld => ?_)
    clear hK K hcell3
    refine wpAnyH_done (by kernel_rfl) ?_ _
    go_wp2_with fail
    exact ret_row Tryz.results8 hrow3 rfl rfl ⟨by rw [HR.out], hres3.frm⟩
  · have HR : Hid (R = none') := Lib.hid (by rw [HJ.out]; rfl)
    go_wp2_with fail
    refine (Hnone.out _).mono ?_
    rintro e V9 ⟨rfl, f9⟩
    have hres := hres.still f9
    clear f9
    obtain ⟨u0, u1, u2, u3, u4, ⟨c0, c1, c2, c3, c4⟩, z0, z1, z2, z3, z4⟩ := hres.facts
    have Hr := Lib.hid hres
    clear hres
    go_wp2_with fail
    exact Hr.out.ret Tryz.results8 rfl rfl fun W f => ⟨by rw [HR.out], f⟩

set_option maxRecDepth 100000 in
set_option maxHeartbeats 8000000 in
theorem casUp_any (p : Shp) (hp : p.bg.size ≤ 1000 ∧ p.en.size ≤ 1000) (hq : empB p = false → AscS p.bg ∧ AscS p.en) (w : World) : Calls Tryz.prog 38 #[shV p, .int .i64 8, .int .i64 4, .func (.func 39) #[] #[]] w fun e w' => e = .returned (shV (casS 8 4 upC p)) ∧ Frm (fun _ => False) w w' := by
  have hlow := least_any p
  have hhigh := most_any p
  have hown := own_any p
  have hemp := emp_any p hp.1 hp.2
  have hnone := empty_any
  have hu1 := fun (h : empB p = false) => upper_any p.bg hp.1 (hq h).1
  have hu2 := fun (h : empB p = false) => upper_any p.en hp.2 (hq h).2
  have hJ : casS 8 4 upC p = if empB p then none' else ⟨lowS p, highS p, if iAnd (ownS p) 8 = 0 then ownS p else iOr (iAndNot (ownS p) 8) 4, baM upC p.bg, baM upC p.en⟩ := rfl
  rw [← bits_and, ← bits_andNot, ← bits_or] at hJ
  generalize casS 8 4 upC p = R at *
  generalize baM upC p.bg = U1 at *
  generalize baM upC p.en = U2 at *
  generalize empB p = E at *
  generalize lowS p = L at *
  generalize highS p = H at *
  generalize ownS p = O at *
  obtain ⟨l, h, c, b, d⟩ := p
  unfold shV at *
  simp only at hlow hhigh hown hemp hJ hu1 hu2 ⊢
  have Hlow := Lib.hid hlow
  have Hhigh := Lib.hid hhigh
  have Hown := Lib.hid hown
  have Hemp := Lib.hid hemp
  have Hnone := Lib.hid hnone
  have HJ := Lib.hid hJ
  clear hlow hhigh hown hemp hnone hJ hp hq
  go_enter Tryz.func38, Tryz.ntmps38
  go_upto_region 1 with fail
  obtain ⟨W1, x, g, hW, hg, hx, hf, ⟨a0, a1, a2, a3, a4⟩, hres, hnxg⟩ := one_res w l h c b d
  rw [hW, hg, hx]
  clear hW hg hx hf
  go_wp2_with fail
  refine (Hemp.out _).mono ?_
  rintro e V1 ⟨rfl, f1⟩
  have a0 := f1.cell a0 (fun h => h)
  have a1 := f1.cell a1 (fun h => h)
  have a2 := f1.cell a2 (fun h => h)
  have a3 := f1.cell a3 (fun h => h)
  have a4 := f1.cell a4 (fun h => h)
  have hres := hres.still f1
  clear f1
  clear Hemp
  cases E
  · have HR : Hid (R = ⟨L, H, if bits .and .i64 O 8 = 0 then O else bits .or .i64 (bits .andNot .i64 O 8) 4, U1, U2⟩) := Lib.hid (by rw [HJ.out]; rfl)
    have Hu1 := Lib.hid (hu1 rfl)
    have Hu2 := Lib.hid (hu2 rfl)
    clear HJ Hnone hu1 hu2
    go_wp2_with fail
    refine (Hown.out _).mono ?_
    rintro e V2 ⟨rfl, f2⟩
    have a0 := f2.cell a0 (fun h => h)
    have a1 := f2.cell a1 (fun h => h)
    have a2 := f2.cell a2 (fun h => h)
    have a3 := f2.cell a3 (fun h => h)
    have a4 := f2.cell a4 (fun h => h)
    have hres := hres.still f2
    clear f2
    clear Hown
    by_cases hz : bits .and .i64 O 8 = 0
    · skip
      rw [if_pos hz] at HR
      have hzb : (bits .and .i64 O 8 != 0) = false := by simp [hz]
      have HF := Lib.hid hres.frm.drew
      have hres := hres.still (Frm.refl _ _).drew
      go_upto_region 6 with fail
      refine wp_region_held_drew (S := fun w' => w'.cell? ⟨x, 0, none⟩ = some (.int .i64 (l)) ∧ w'.cell? ⟨x, 1, none⟩ = some (.int .i64 (h)) ∧ w'.cell? ⟨x, 2, none⟩ = some (.int .i64 (c)) ∧ w'.cell? ⟨x, 3, none⟩ = some (.string (b)) ∧ w'.cell? ⟨x, 4, none⟩ = some (.string (d)) ∧ Res w w' g) (by kernel_rfl) ⟨a0, a1, a2, a3, a4, hres⟩ (fun hHeld => ?_)
      refine wpAnyH_take (i := 0) (oi := ⟨some 24, _, _, _, _, _⟩) (v := (.agg #[.int .i64 (l), .int .i64 (h), .int .i64 (c), .string (b), .string (d)])) rfl (by kernel_rfl) (by kernel_rfl) (by kernel_rfl) (fun _ _ _ h => h) (.inl ⟨by rfl, fun w hw => by dsimp only at hw; go_simp⟩) hHeld ?_
      simp only [Act.put, List.setIfInBounds_toArray, List.set_cons_zero, List.set_cons_succ]
      refine wpAnyH_take (i := 2) (oi := ⟨some 26, _, _, _, _, _⟩) (v := (.agg #[.int .i64 (l), .int .i64 (h), .int .i64 (c), .string (b), .string (d)])) rfl (by kernel_rfl) (by kernel_rfl) (by kernel_rfl) (fun _ _ _ h => h) (.inl ⟨by rfl, fun w hw => by dsimp only at hw; go_simp⟩) hHeld ?_
      simp only [Act.put, List.setIfInBounds_toArray, List.set_cons_zero, List.set_cons_succ]
      refine wpAnyH_take (i := 4) (oi := ⟨some 28, _, _, _, _, _⟩) (v := (.int .i64 (O))) rfl (by kernel_rfl) (by kernel_rfl) (by kernel_rfl) (fun _ _ _ h => h) (.inl ⟨by rfl, fun w hw => by dsimp only at hw; go_simp⟩) hHeld ?_
      simp only [Act.put, List.setIfInBounds_toArray, List.set_cons_zero, List.set_cons_succ]
      refine wpAnyH_take (i := 5) (oi := ⟨some 29, _, _, _, _, _⟩) (v := (.func (.func 39) #[] #[])) rfl (by kernel_rfl) (by kernel_rfl) (by kernel_rfl) (fun _ _ _ h => h) (.inl ⟨by rfl, fun w hw => by dsimp only at hw; go_simp⟩) hHeld ?_
      simp only [Act.put, List.setIfInBounds_toArray, List.set_cons_zero, List.set_cons_succ]
      refine wpAnyH_take (i := 6) (oi := ⟨some 30, _, _, _, _, _⟩) (v := (.pointer (some ⟨x, 3, none⟩))) rfl (by kernel_rfl) (by kernel_rfl) (by kernel_rfl) (fun _ _ _ h => h) (.inl ⟨by rfl, fun w hw => by dsimp only at hw; go_simp⟩) hHeld ?_
      simp only [Act.put, List.setIfInBounds_toArray, List.set_cons_zero, List.set_cons_succ]
      refine wpAnyH_take (i := 7) (oi := ⟨some 31, _, _, _, _, _⟩) (v := (.string (b))) rfl (by kernel_rfl) (by kernel_rfl) (by kernel_rfl) (fun _ _ _ h => h) (.inl ⟨by rfl, fun w hw => by dsimp only at hw; go_simp⟩) hHeld ?_
      simp only [Act.put, List.setIfInBounds_toArray, List.set_cons_zero, List.set_cons_succ]
      refine wpAnyH_take (i := 9) (oi := ⟨some 33, _, _, _, _, _⟩) (v := (.func (.func 39) #[] #[])) rfl (by kernel_rfl) (by kernel_rfl) (by kernel_rfl) (fun _ _ _ h => h) (.inl ⟨by rfl, fun w hw => by dsimp only at hw; go_simp⟩) hHeld ?_
      simp only [Act.put, List.setIfInBounds_toArray, List.set_cons_zero, List.set_cons_succ]
      refine wpAnyH_take (i := 10) (oi := ⟨some 34, _, _, _, _, _⟩) (v := (.pointer (some ⟨x, 4, none⟩))) rfl (by kernel_rfl) (by kernel_rfl) (by kernel_rfl) (fun _ _ _ h => h) (.inl ⟨by rfl, fun w hw => by dsimp only at hw; go_simp⟩) hHeld ?_
      simp only [Act.put, List.setIfInBounds_toArray, List.set_cons_zero, List.set_cons_succ]
      refine wpAnyH_take (i := 11) (oi := ⟨some 35, _, _, _, _, _⟩) (v := (.string (d))) rfl (by kernel_rfl) (by kernel_rfl) (by kernel_rfl) (fun _ _ _ h => h) (.inl ⟨by rfl, fun w hw => by dsimp only at hw; go_simp⟩) hHeld ?_
      simp only [Act.put, List.setIfInBounds_toArray, List.set_cons_zero, List.set_cons_succ]
      refine wpAnyH_ready (rs := [1]) (by kernel_rfl) (by simp) ?_
      refine AllReadyH.cons (o := ⟨some 25, _, _, _, _, _⟩) rfl (fun K hK => ?_) AllReadyH.nil
      go_simp
      refine (Hlow.out _).mono ?_
      rintro e V1 ⟨rfl, f1⟩
      have HF1 := Lib.hid (HF.out.trans f1)
      refine hK.out _ _ ⟨f1.cell hHeld.1 (fun h => h), f1.cell hHeld.2.1 (fun h => h), f1.cell hHeld.2.2.1 (fun h => h), f1.cell hHeld.2.2.2.1 (fun h => h), f1.cell hHeld.2.2.2.2.1 (fun h => h), hHeld.2.2.2.2.2.still f1⟩ (fun hHeld => ?_)
      clear hK K f1 HF
      refine wpAnyH_ready (rs := [3]) (by kernel_rfl) (by simp) ?_
      refine AllReadyH.cons (o := ⟨some 27, _, _, _, _, _⟩) rfl (fun K hK => ?_) AllReadyH.nil
      go_simp
      refine (Hhigh.out _).mono ?_
      rintro e V2 ⟨rfl, f2⟩
      have HF2 := Lib.hid (HF1.out.trans f2)
      refine hK.out _ _ ⟨f2.cell hHeld.1 (fun h => h), f2.cell hHeld.2.1 (fun h => h), f2.cell hHeld.2.2.1 (fun h => h), f2.cell hHeld.2.2.2.1 (fun h => h), f2.cell hHeld.2.2.2.2.1 (fun h => h), hHeld.2.2.2.2.2.still f2⟩ (fun hHeld => ?_)
      clear hK K f2 HF1
      refine wpAnyH_ready (rs := [8]) (by kernel_rfl) (by simp) ?_
      refine AllReadyH.cons (o := ⟨some 32, _, _, _, _, _⟩) rfl (fun K hK => ?_) AllReadyH.nil
      go_simp
      refine (Hu1.out _).mono ?_
      rintro e V3 ⟨rfl, f3⟩
      have HF3 := Lib.hid (HF2.out.trans f3)
      refine hK.out _ _ ⟨f3.cell hHeld.1 (fun h => h), f3.cell hHeld.2.1 (fun h => h), f3.cell hHeld.2.2.1 (fun h => h), f3.cell hHeld.2.2.2.1 (fun h => h), f3.cell hHeld.2.2.2.2.1 (fun h => h), hHeld.2.2.2.2.2.still f3⟩ (fun hHeld => ?_)
      clear hK K f3 HF2
      refine wpAnyH_ready (rs := [12]) (by kernel_rfl) (by simp) ?_
      refine AllReadyH.cons (o := ⟨some 36, _, _, _, _, _⟩) rfl (fun K hK => ?_) AllReadyH.nil
      go_simp
      refine (Hu2.out _).mono ?_
      rintro e V4 ⟨rfl, f4⟩
      have HF4 := Lib.hid (HF3.out.trans f4)
      refine hK.out _ _ ⟨f4.cell hHeld.1 (fun h => h), f4.cell hHeld.2.1 (fun h => h), f4.cell hHeld.2.2.1 (fun h => h), f4.cell hHeld.2.2.2.1 (fun h => h), f4.cell hHeld.2.2.2.2.1 (fun h => h), hHeld.2.2.2.2.2.still f4⟩ (fun hHeld => ?_)
      clear hK K f4 HF3
      refine wpAnyH_take (i := 13) (oi := ⟨some 37, _, _, _, _, _⟩) (v := (.agg #[.int .i64 (L), .int .i64 (H), .int .i64 (O), .string (U1), .string (U2)])) rfl (by kernel_rfl) (by kernel_rfl) (by kernel_rfl) (fun _ _ _ h => h) (.inl ⟨by rfl, fun w hw => by dsimp only at hw; go_simp⟩) hHeld ?_
      simp only [Act.put, List.setIfInBounds_toArray, List.set_cons_zero, List.set_cons_succ]
      refine wpAnyH_ready (rs := [14]) (by kernel_rfl) (by simp) ?_
      refine AllReadyH.cons (o := ⟨none, _, _, _, _, _⟩) rfl (fun K hK => ?_) AllReadyH.nil
      have hr5 := hHeld.2.2.2.2.2
      obtain ⟨u0, u1, u2, u3, u4, ⟨c0, c1, c2, c3, c4⟩, z0, z1, z2, z3, z4⟩ := hr5.facts
      go_simp
      clear c0 c1 c2 c3 c4 z0 z1 z2 z3 z4
      obtain ⟨V5, hV5, hrow5, hres5, hcell5⟩ := hr5.put (.int .i64 (L)) (.int .i64 (H)) (.int .i64 (O)) (.string (U1)) (.string (U2))
      rw [hV5]
      clear hV5 hr5
      refine hK.out _ _ ⟨hcell5 _ _ _ hnxg hHeld.1, hcell5 _ _ _ hnxg hHeld.2.1, hcell5 _ _ _ hnxg hHeld.2.2.1, hcell5 _ _ _ hnxg hHeld.2.2.2.1, hcell5 _ _ _ hnxg hHeld.2.2.2.2.1, hres5⟩ (fun hHeld => ?_)
      clear hK K hcell5
      refine wpAnyH_done (by kernel_rfl) ?_ _
      go_wp2_with fail
      exact ret_row Tryz.results38 hrow5 rfl rfl ⟨by rw [HR.out], hres5.frm⟩
    · skip
      rw [if_neg hz] at HR
      have hzb : (bits .and .i64 O 8 != 0) = true := by simp [hz]
      have HF := Lib.hid hres.frm.drew
      have hres := hres.still (Frm.refl _ _).drew
      go_upto_region 6 with fail
      refine wp_region_held_drew (S := fun w' => w'.cell? ⟨x, 0, none⟩ = some (.int .i64 (l)) ∧ w'.cell? ⟨x, 1, none⟩ = some (.int .i64 (h)) ∧ w'.cell? ⟨x, 2, none⟩ = some (.int .i64 (c)) ∧ w'.cell? ⟨x, 3, none⟩ = some (.string (b)) ∧ w'.cell? ⟨x, 4, none⟩ = some (.string (d)) ∧ Res w w' g) (by kernel_rfl) ⟨a0, a1, a2, a3, a4, hres⟩ (fun hHeld => ?_)
      refine wpAnyH_take (i := 0) (oi := ⟨some 24, _, _, _, _, _⟩) (v := (.agg #[.int .i64 (l), .int .i64 (h), .int .i64 (c), .string (b), .string (d)])) rfl (by kernel_rfl) (by kernel_rfl) (by kernel_rfl) (fun _ _ _ h => h) (.inl ⟨by rfl, fun w hw => by dsimp only at hw; go_simp⟩) hHeld ?_
      simp only [Act.put, List.setIfInBounds_toArray, List.set_cons_zero, List.set_cons_succ]
      refine wpAnyH_take (i := 2) (oi := ⟨some 26, _, _, _, _, _⟩) (v := (.agg #[.int .i64 (l), .int .i64 (h), .int .i64 (c), .string (b), .string (d)])) rfl (by kernel_rfl) (by kernel_rfl) (by kernel_rfl) (fun _ _ _ h => h) (.inl ⟨by rfl, fun w hw => by dsimp only at hw; go_simp⟩) hHeld ?_
      simp only [Act.put, List.setIfInBounds_toArray, List.set_cons_zero, List.set_cons_succ]
      refine wpAnyH_take (i := 4) (oi := ⟨some 28, _, _, _, _, _⟩) (v := (.int .i64 (bits .or .i64 (bits .andNot .i64 O 8) 4))) rfl (by kernel_rfl) (by kernel_rfl) (by kernel_rfl) (fun _ _ _ h => h) (.inl ⟨by rfl, fun w hw => by dsimp only at hw; go_simp⟩) hHeld ?_
      simp only [Act.put, List.setIfInBounds_toArray, List.set_cons_zero, List.set_cons_succ]
      refine wpAnyH_take (i := 5) (oi := ⟨some 29, _, _, _, _, _⟩) (v := (.func (.func 39) #[] #[])) rfl (by kernel_rfl) (by kernel_rfl) (by kernel_rfl) (fun _ _ _ h => h) (.inl ⟨by rfl, fun w hw => by dsimp only at hw; go_simp⟩) hHeld ?_
      simp only [Act.put, List.setIfInBounds_toArray, List.set_cons_zero, List.set_cons_succ]
      refine wpAnyH_take (i := 6) (oi := ⟨some 30, _, _, _, _, _⟩) (v := (.pointer (some ⟨x, 3, none⟩))) rfl (by kernel_rfl) (by kernel_rfl) (by kernel_rfl) (fun _ _ _ h => h) (.inl ⟨by rfl, fun w hw => by dsimp only at hw; go_simp⟩) hHeld ?_
      simp only [Act.put, List.setIfInBounds_toArray, List.set_cons_zero, List.set_cons_succ]
      refine wpAnyH_take (i := 7) (oi := ⟨some 31, _, _, _, _, _⟩) (v := (.string (b))) rfl (by kernel_rfl) (by kernel_rfl) (by kernel_rfl) (fun _ _ _ h => h) (.inl ⟨by rfl, fun w hw => by dsimp only at hw; go_simp⟩) hHeld ?_
      simp only [Act.put, List.setIfInBounds_toArray, List.set_cons_zero, List.set_cons_succ]
      refine wpAnyH_take (i := 9) (oi := ⟨some 33, _, _, _, _, _⟩) (v := (.func (.func 39) #[] #[])) rfl (by kernel_rfl) (by kernel_rfl) (by kernel_rfl) (fun _ _ _ h => h) (.inl ⟨by rfl, fun w hw => by dsimp only at hw; go_simp⟩) hHeld ?_
      simp only [Act.put, List.setIfInBounds_toArray, List.set_cons_zero, List.set_cons_succ]
      refine wpAnyH_take (i := 10) (oi := ⟨some 34, _, _, _, _, _⟩) (v := (.pointer (some ⟨x, 4, none⟩))) rfl (by kernel_rfl) (by kernel_rfl) (by kernel_rfl) (fun _ _ _ h => h) (.inl ⟨by rfl, fun w hw => by dsimp only at hw; go_simp⟩) hHeld ?_
      simp only [Act.put, List.setIfInBounds_toArray, List.set_cons_zero, List.set_cons_succ]
      refine wpAnyH_take (i := 11) (oi := ⟨some 35, _, _, _, _, _⟩) (v := (.string (d))) rfl (by kernel_rfl) (by kernel_rfl) (by kernel_rfl) (fun _ _ _ h => h) (.inl ⟨by rfl, fun w hw => by dsimp only at hw; go_simp⟩) hHeld ?_
      simp only [Act.put, List.setIfInBounds_toArray, List.set_cons_zero, List.set_cons_succ]
      refine wpAnyH_ready (rs := [1]) (by kernel_rfl) (by simp) ?_
      refine AllReadyH.cons (o := ⟨some 25, _, _, _, _, _⟩) rfl (fun K hK => ?_) AllReadyH.nil
      go_simp
      refine (Hlow.out _).mono ?_
      rintro e V1 ⟨rfl, f1⟩
      have HF1 := Lib.hid (HF.out.trans f1)
      refine hK.out _ _ ⟨f1.cell hHeld.1 (fun h => h), f1.cell hHeld.2.1 (fun h => h), f1.cell hHeld.2.2.1 (fun h => h), f1.cell hHeld.2.2.2.1 (fun h => h), f1.cell hHeld.2.2.2.2.1 (fun h => h), hHeld.2.2.2.2.2.still f1⟩ (fun hHeld => ?_)
      clear hK K f1 HF
      refine wpAnyH_ready (rs := [3]) (by kernel_rfl) (by simp) ?_
      refine AllReadyH.cons (o := ⟨some 27, _, _, _, _, _⟩) rfl (fun K hK => ?_) AllReadyH.nil
      go_simp
      refine (Hhigh.out _).mono ?_
      rintro e V2 ⟨rfl, f2⟩
      have HF2 := Lib.hid (HF1.out.trans f2)
      refine hK.out _ _ ⟨f2.cell hHeld.1 (fun h => h), f2.cell hHeld.2.1 (fun h => h), f2.cell hHeld.2.2.1 (fun h => h), f2.cell hHeld.2.2.2.1 (fun h => h), f2.cell hHeld.2.2.2.2.1 (fun h => h), hHeld.2.2.2.2.2.still f2⟩ (fun hHeld => ?_)
      clear hK K f2 HF1
      refine wpAnyH_ready (rs := [8]) (by kernel_rfl) (by simp) ?_
      refine AllReadyH.cons (o := ⟨some 32, _, _, _, _, _⟩) rfl (fun K hK => ?_) AllReadyH.nil
      go_simp
      refine (Hu1.out _).mono ?_
      rintro e V3 ⟨rfl, f3⟩
      have HF3 := Lib.hid (HF2.out.trans f3)
      refine hK.out _ _ ⟨f3.cell hHeld.1 (fun h => h), f3.cell hHeld.2.1 (fun h => h), f3.cell hHeld.2.2.1 (fun h => h), f3.cell hHeld.2.2.2.1 (fun h => h), f3.cell hHeld.2.2.2.2.1 (fun h => h), hHeld.2.2.2.2.2.still f3⟩ (fun hHeld => ?_)
      clear hK K f3 HF2
      refine wpAnyH_ready (rs := [12]) (by kernel_rfl) (by simp) ?_
      refine AllReadyH.cons (o := ⟨some 36, _, _, _, _, _⟩) rfl (fun K hK => ?_) AllReadyH.nil
      go_simp
      refine (Hu2.out _).mono ?_
      rintro e V4 ⟨rfl, f4⟩
      have HF4 := Lib.hid (HF3.out.trans f4)
      refine hK.out _ _ ⟨f4.cell hHeld.1 (fun h => h), f4.cell hHeld.2.1 (fun h => h), f4.cell hHeld.2.2.1 (fun h => h), f4.cell hHeld.2.2.2.1 (fun h => h), f4.cell hHeld.2.2.2.2.1 (fun h => h), hHeld.2.2.2.2.2.still f4⟩ (fun hHeld => ?_)
      clear hK K f4 HF3
      refine wpAnyH_take (i := 13) (oi := ⟨some 37, _, _, _, _, _⟩) (v := (.agg #[.int .i64 (L), .int .i64 (H), .int .i64 (bits .or .i64 (bits .andNot .i64 O 8) 4), .string (U1), .string (U2)])) rfl (by kernel_rfl) (by kernel_rfl) (by kernel_rfl) (fun _ _ _ h => h) (.inl ⟨by rfl, fun w hw => by dsimp only at hw; go_simp⟩) hHeld ?_
      simp only [Act.put, List.setIfInBounds_toArray, List.set_cons_zero, List.set_cons_succ]
      refine wpAnyH_ready (rs := [14]) (by kernel_rfl) (by simp) ?_
      refine AllReadyH.cons (o := ⟨none, _, _, _, _, _⟩) rfl (fun K hK => ?_) AllReadyH.nil
      have hr5 := hHeld.2.2.2.2.2
      obtain ⟨u0, u1, u2, u3, u4, ⟨c0, c1, c2, c3, c4⟩, z0, z1, z2, z3, z4⟩ := hr5.facts
      go_simp
      clear c0 c1 c2 c3 c4 z0 z1 z2 z3 z4
      obtain ⟨V5, hV5, hrow5, hres5, hcell5⟩ := hr5.put (.int .i64 (L)) (.int .i64 (H)) (.int .i64 (bits .or .i64 (bits .andNot .i64 O 8) 4)) (.string (U1)) (.string (U2))
      rw [hV5]
      clear hV5 hr5
      refine hK.out _ _ ⟨hcell5 _ _ _ hnxg hHeld.1, hcell5 _ _ _ hnxg hHeld.2.1, hcell5 _ _ _ hnxg hHeld.2.2.1, hcell5 _ _ _ hnxg hHeld.2.2.2.1, hcell5 _ _ _ hnxg hHeld.2.2.2.2.1, hres5⟩ (fun hHeld => ?_)
      clear hK K hcell5
      refine wpAnyH_done (by kernel_rfl) ?_ _
      go_wp2_with fail
      exact ret_row Tryz.results38 hrow5 rfl rfl ⟨by rw [HR.out], hres5.frm⟩
  · have HR : Hid (R = none') := Lib.hid (by rw [HJ.out]; rfl)
    go_wp2_with fail
    refine (Hnone.out _).mono ?_
    rintro e V9 ⟨rfl, f9⟩
    have hres := hres.still f9
    clear f9
    obtain ⟨u0, u1, u2, u3, u4, ⟨c0, c1, c2, c3, c4⟩, z0, z1, z2, z3, z4⟩ := hres.facts
    have Hr := Lib.hid hres
    clear hres
    go_wp2_with fail
    exact Hr.out.ret Tryz.results38 rfl rfl fun W f => ⟨by rw [HR.out], f⟩

set_option maxRecDepth 100000 in
set_option maxHeartbeats 8000000 in
theorem casLo_any (p : Shp) (hp : p.bg.size ≤ 1000 ∧ p.en.size ≤ 1000) (hq : empB p = false → AscS p.bg ∧ AscS p.en) (w : World) : Calls Tryz.prog 38 #[shV p, .int .i64 4, .int .i64 8, .func (.func 40) #[] #[]] w fun e w' => e = .returned (shV (casS 4 8 loC p)) ∧ Frm (fun _ => False) w w' := by
  have hlow := least_any p
  have hhigh := most_any p
  have hown := own_any p
  have hemp := emp_any p hp.1 hp.2
  have hnone := empty_any
  have hu1 := fun (h : empB p = false) => lower_any p.bg hp.1 (hq h).1
  have hu2 := fun (h : empB p = false) => lower_any p.en hp.2 (hq h).2
  have hJ : casS 4 8 loC p = if empB p then none' else ⟨lowS p, highS p, if iAnd (ownS p) 4 = 0 then ownS p else iOr (iAndNot (ownS p) 4) 8, baM loC p.bg, baM loC p.en⟩ := rfl
  rw [← bits_and, ← bits_andNot, ← bits_or] at hJ
  generalize casS 4 8 loC p = R at *
  generalize baM loC p.bg = U1 at *
  generalize baM loC p.en = U2 at *
  generalize empB p = E at *
  generalize lowS p = L at *
  generalize highS p = H at *
  generalize ownS p = O at *
  obtain ⟨l, h, c, b, d⟩ := p
  unfold shV at *
  simp only at hlow hhigh hown hemp hJ hu1 hu2 ⊢
  have Hlow := Lib.hid hlow
  have Hhigh := Lib.hid hhigh
  have Hown := Lib.hid hown
  have Hemp := Lib.hid hemp
  have Hnone := Lib.hid hnone
  have HJ := Lib.hid hJ
  clear hlow hhigh hown hemp hnone hJ hp hq
  go_enter Tryz.func38, Tryz.ntmps38
  go_upto_region 1 with fail
  obtain ⟨W1, x, g, hW, hg, hx, hf, ⟨a0, a1, a2, a3, a4⟩, hres, hnxg⟩ := one_res w l h c b d
  rw [hW, hg, hx]
  clear hW hg hx hf
  go_wp2_with fail
  refine (Hemp.out _).mono ?_
  rintro e V1 ⟨rfl, f1⟩
  have a0 := f1.cell a0 (fun h => h)
  have a1 := f1.cell a1 (fun h => h)
  have a2 := f1.cell a2 (fun h => h)
  have a3 := f1.cell a3 (fun h => h)
  have a4 := f1.cell a4 (fun h => h)
  have hres := hres.still f1
  clear f1
  clear Hemp
  cases E
  · have HR : Hid (R = ⟨L, H, if bits .and .i64 O 4 = 0 then O else bits .or .i64 (bits .andNot .i64 O 4) 8, U1, U2⟩) := Lib.hid (by rw [HJ.out]; rfl)
    have Hu1 := Lib.hid (hu1 rfl)
    have Hu2 := Lib.hid (hu2 rfl)
    clear HJ Hnone hu1 hu2
    go_wp2_with fail
    refine (Hown.out _).mono ?_
    rintro e V2 ⟨rfl, f2⟩
    have a0 := f2.cell a0 (fun h => h)
    have a1 := f2.cell a1 (fun h => h)
    have a2 := f2.cell a2 (fun h => h)
    have a3 := f2.cell a3 (fun h => h)
    have a4 := f2.cell a4 (fun h => h)
    have hres := hres.still f2
    clear f2
    clear Hown
    by_cases hz : bits .and .i64 O 4 = 0
    · skip
      rw [if_pos hz] at HR
      have hzb : (bits .and .i64 O 4 != 0) = false := by simp [hz]
      have HF := Lib.hid hres.frm.drew
      have hres := hres.still (Frm.refl _ _).drew
      go_upto_region 6 with fail
      refine wp_region_held_drew (S := fun w' => w'.cell? ⟨x, 0, none⟩ = some (.int .i64 (l)) ∧ w'.cell? ⟨x, 1, none⟩ = some (.int .i64 (h)) ∧ w'.cell? ⟨x, 2, none⟩ = some (.int .i64 (c)) ∧ w'.cell? ⟨x, 3, none⟩ = some (.string (b)) ∧ w'.cell? ⟨x, 4, none⟩ = some (.string (d)) ∧ Res w w' g) (by kernel_rfl) ⟨a0, a1, a2, a3, a4, hres⟩ (fun hHeld => ?_)
      refine wpAnyH_take (i := 0) (oi := ⟨some 24, _, _, _, _, _⟩) (v := (.agg #[.int .i64 (l), .int .i64 (h), .int .i64 (c), .string (b), .string (d)])) rfl (by kernel_rfl) (by kernel_rfl) (by kernel_rfl) (fun _ _ _ h => h) (.inl ⟨by rfl, fun w hw => by dsimp only at hw; go_simp⟩) hHeld ?_
      simp only [Act.put, List.setIfInBounds_toArray, List.set_cons_zero, List.set_cons_succ]
      refine wpAnyH_take (i := 2) (oi := ⟨some 26, _, _, _, _, _⟩) (v := (.agg #[.int .i64 (l), .int .i64 (h), .int .i64 (c), .string (b), .string (d)])) rfl (by kernel_rfl) (by kernel_rfl) (by kernel_rfl) (fun _ _ _ h => h) (.inl ⟨by rfl, fun w hw => by dsimp only at hw; go_simp⟩) hHeld ?_
      simp only [Act.put, List.setIfInBounds_toArray, List.set_cons_zero, List.set_cons_succ]
      refine wpAnyH_take (i := 4) (oi := ⟨some 28, _, _, _, _, _⟩) (v := (.int .i64 (O))) rfl (by kernel_rfl) (by kernel_rfl) (by kernel_rfl) (fun _ _ _ h => h) (.inl ⟨by rfl, fun w hw => by dsimp only at hw; go_simp⟩) hHeld ?_
      simp only [Act.put, List.setIfInBounds_toArray, List.set_cons_zero, List.set_cons_succ]
      refine wpAnyH_take (i := 5) (oi := ⟨some 29, _, _, _, _, _⟩) (v := (.func (.func 40) #[] #[])) rfl (by kernel_rfl) (by kernel_rfl) (by kernel_rfl) (fun _ _ _ h => h) (.inl ⟨by rfl, fun w hw => by dsimp only at hw; go_simp⟩) hHeld ?_
      simp only [Act.put, List.setIfInBounds_toArray, List.set_cons_zero, List.set_cons_succ]
      refine wpAnyH_take (i := 6) (oi := ⟨some 30, _, _, _, _, _⟩) (v := (.pointer (some ⟨x, 3, none⟩))) rfl (by kernel_rfl) (by kernel_rfl) (by kernel_rfl) (fun _ _ _ h => h) (.inl ⟨by rfl, fun w hw => by dsimp only at hw; go_simp⟩) hHeld ?_
      simp only [Act.put, List.setIfInBounds_toArray, List.set_cons_zero, List.set_cons_succ]
      refine wpAnyH_take (i := 7) (oi := ⟨some 31, _, _, _, _, _⟩) (v := (.string (b))) rfl (by kernel_rfl) (by kernel_rfl) (by kernel_rfl) (fun _ _ _ h => h) (.inl ⟨by rfl, fun w hw => by dsimp only at hw; go_simp⟩) hHeld ?_
      simp only [Act.put, List.setIfInBounds_toArray, List.set_cons_zero, List.set_cons_succ]
      refine wpAnyH_take (i := 9) (oi := ⟨some 33, _, _, _, _, _⟩) (v := (.func (.func 40) #[] #[])) rfl (by kernel_rfl) (by kernel_rfl) (by kernel_rfl) (fun _ _ _ h => h) (.inl ⟨by rfl, fun w hw => by dsimp only at hw; go_simp⟩) hHeld ?_
      simp only [Act.put, List.setIfInBounds_toArray, List.set_cons_zero, List.set_cons_succ]
      refine wpAnyH_take (i := 10) (oi := ⟨some 34, _, _, _, _, _⟩) (v := (.pointer (some ⟨x, 4, none⟩))) rfl (by kernel_rfl) (by kernel_rfl) (by kernel_rfl) (fun _ _ _ h => h) (.inl ⟨by rfl, fun w hw => by dsimp only at hw; go_simp⟩) hHeld ?_
      simp only [Act.put, List.setIfInBounds_toArray, List.set_cons_zero, List.set_cons_succ]
      refine wpAnyH_take (i := 11) (oi := ⟨some 35, _, _, _, _, _⟩) (v := (.string (d))) rfl (by kernel_rfl) (by kernel_rfl) (by kernel_rfl) (fun _ _ _ h => h) (.inl ⟨by rfl, fun w hw => by dsimp only at hw; go_simp⟩) hHeld ?_
      simp only [Act.put, List.setIfInBounds_toArray, List.set_cons_zero, List.set_cons_succ]
      refine wpAnyH_ready (rs := [1]) (by kernel_rfl) (by simp) ?_
      refine AllReadyH.cons (o := ⟨some 25, _, _, _, _, _⟩) rfl (fun K hK => ?_) AllReadyH.nil
      go_simp
      refine (Hlow.out _).mono ?_
      rintro e V1 ⟨rfl, f1⟩
      have HF1 := Lib.hid (HF.out.trans f1)
      refine hK.out _ _ ⟨f1.cell hHeld.1 (fun h => h), f1.cell hHeld.2.1 (fun h => h), f1.cell hHeld.2.2.1 (fun h => h), f1.cell hHeld.2.2.2.1 (fun h => h), f1.cell hHeld.2.2.2.2.1 (fun h => h), hHeld.2.2.2.2.2.still f1⟩ (fun hHeld => ?_)
      clear hK K f1 HF
      refine wpAnyH_ready (rs := [3]) (by kernel_rfl) (by simp) ?_
      refine AllReadyH.cons (o := ⟨some 27, _, _, _, _, _⟩) rfl (fun K hK => ?_) AllReadyH.nil
      go_simp
      refine (Hhigh.out _).mono ?_
      rintro e V2 ⟨rfl, f2⟩
      have HF2 := Lib.hid (HF1.out.trans f2)
      refine hK.out _ _ ⟨f2.cell hHeld.1 (fun h => h), f2.cell hHeld.2.1 (fun h => h), f2.cell hHeld.2.2.1 (fun h => h), f2.cell hHeld.2.2.2.1 (fun h => h), f2.cell hHeld.2.2.2.2.1 (fun h => h), hHeld.2.2.2.2.2.still f2⟩ (fun hHeld => ?_)
      clear hK K f2 HF1
      refine wpAnyH_ready (rs := [8]) (by kernel_rfl) (by simp) ?_
      refine AllReadyH.cons (o := ⟨some 32, _, _, _, _, _⟩) rfl (fun K hK => ?_) AllReadyH.nil
      go_simp
      refine (Hu1.out _).mono ?_
      rintro e V3 ⟨rfl, f3⟩
      have HF3 := Lib.hid (HF2.out.trans f3)
      refine hK.out _ _ ⟨f3.cell hHeld.1 (fun h => h), f3.cell hHeld.2.1 (fun h => h), f3.cell hHeld.2.2.1 (fun h => h), f3.cell hHeld.2.2.2.1 (fun h => h), f3.cell hHeld.2.2.2.2.1 (fun h => h), hHeld.2.2.2.2.2.still f3⟩ (fun hHeld => ?_)
      clear hK K f3 HF2
      refine wpAnyH_ready (rs := [12]) (by kernel_rfl) (by simp) ?_
      refine AllReadyH.cons (o := ⟨some 36, _, _, _, _, _⟩) rfl (fun K hK => ?_) AllReadyH.nil
      go_simp
      refine (Hu2.out _).mono ?_
      rintro e V4 ⟨rfl, f4⟩
      have HF4 := Lib.hid (HF3.out.trans f4)
      refine hK.out _ _ ⟨f4.cell hHeld.1 (fun h => h), f4.cell hHeld.2.1 (fun h => h), f4.cell hHeld.2.2.1 (fun h => h), f4.cell hHeld.2.2.2.1 (fun h => h), f4.cell hHeld.2.2.2.2.1 (fun h => h), hHeld.2.2.2.2.2.still f4⟩ (fun hHeld => ?_)
      clear hK K f4 HF3
      refine wpAnyH_take (i := 13) (oi := ⟨some 37, _, _, _, _, _⟩) (v := (.agg #[.int .i64 (L), .int .i64 (H), .int .i64 (O), .string (U1), .string (U2)])) rfl (by kernel_rfl) (by kernel_rfl) (by kernel_rfl) (fun _ _ _ h => h) (.inl ⟨by rfl, fun w hw => by dsimp only at hw; go_simp⟩) hHeld ?_
      simp only [Act.put, List.setIfInBounds_toArray, List.set_cons_zero, List.set_cons_succ]
      refine wpAnyH_ready (rs := [14]) (by kernel_rfl) (by simp) ?_
      refine AllReadyH.cons (o := ⟨none, _, _, _, _, _⟩) rfl (fun K hK => ?_) AllReadyH.nil
      have hr5 := hHeld.2.2.2.2.2
      obtain ⟨u0, u1, u2, u3, u4, ⟨c0, c1, c2, c3, c4⟩, z0, z1, z2, z3, z4⟩ := hr5.facts
      go_simp
      clear c0 c1 c2 c3 c4 z0 z1 z2 z3 z4
      obtain ⟨V5, hV5, hrow5, hres5, hcell5⟩ := hr5.put (.int .i64 (L)) (.int .i64 (H)) (.int .i64 (O)) (.string (U1)) (.string (U2))
      rw [hV5]
      clear hV5 hr5
      refine hK.out _ _ ⟨hcell5 _ _ _ hnxg hHeld.1, hcell5 _ _ _ hnxg hHeld.2.1, hcell5 _ _ _ hnxg hHeld.2.2.1, hcell5 _ _ _ hnxg hHeld.2.2.2.1, hcell5 _ _ _ hnxg hHeld.2.2.2.2.1, hres5⟩ (fun hHeld => ?_)
      clear hK K hcell5
      refine wpAnyH_done (by kernel_rfl) ?_ _
      go_wp2_with fail
      exact ret_row Tryz.results38 hrow5 rfl rfl ⟨by rw [HR.out], hres5.frm⟩
    · skip
      rw [if_neg hz] at HR
      have hzb : (bits .and .i64 O 4 != 0) = true := by simp [hz]
      have HF := Lib.hid hres.frm.drew
      have hres := hres.still (Frm.refl _ _).drew
      go_upto_region 6 with fail
      refine wp_region_held_drew (S := fun w' => w'.cell? ⟨x, 0, none⟩ = some (.int .i64 (l)) ∧ w'.cell? ⟨x, 1, none⟩ = some (.int .i64 (h)) ∧ w'.cell? ⟨x, 2, none⟩ = some (.int .i64 (c)) ∧ w'.cell? ⟨x, 3, none⟩ = some (.string (b)) ∧ w'.cell? ⟨x, 4, none⟩ = some (.string (d)) ∧ Res w w' g) (by kernel_rfl) ⟨a0, a1, a2, a3, a4, hres⟩ (fun hHeld => ?_)
      refine wpAnyH_take (i := 0) (oi := ⟨some 24, _, _, _, _, _⟩) (v := (.agg #[.int .i64 (l), .int .i64 (h), .int .i64 (c), .string (b), .string (d)])) rfl (by kernel_rfl) (by kernel_rfl) (by kernel_rfl) (fun _ _ _ h => h) (.inl ⟨by rfl, fun w hw => by dsimp only at hw; go_simp⟩) hHeld ?_
      simp only [Act.put, List.setIfInBounds_toArray, List.set_cons_zero, List.set_cons_succ]
      refine wpAnyH_take (i := 2) (oi := ⟨some 26, _, _, _, _, _⟩) (v := (.agg #[.int .i64 (l), .int .i64 (h), .int .i64 (c), .string (b), .string (d)])) rfl (by kernel_rfl) (by kernel_rfl) (by kernel_rfl) (fun _ _ _ h => h) (.inl ⟨by rfl, fun w hw => by dsimp only at hw; go_simp⟩) hHeld ?_
      simp only [Act.put, List.setIfInBounds_toArray, List.set_cons_zero, List.set_cons_succ]
      refine wpAnyH_take (i := 4) (oi := ⟨some 28, _, _, _, _, _⟩) (v := (.int .i64 (bits .or .i64 (bits .andNot .i64 O 4) 8))) rfl (by kernel_rfl) (by kernel_rfl) (by kernel_rfl) (fun _ _ _ h => h) (.inl ⟨by rfl, fun w hw => by dsimp only at hw; go_simp⟩) hHeld ?_
      simp only [Act.put, List.setIfInBounds_toArray, List.set_cons_zero, List.set_cons_succ]
      refine wpAnyH_take (i := 5) (oi := ⟨some 29, _, _, _, _, _⟩) (v := (.func (.func 40) #[] #[])) rfl (by kernel_rfl) (by kernel_rfl) (by kernel_rfl) (fun _ _ _ h => h) (.inl ⟨by rfl, fun w hw => by dsimp only at hw; go_simp⟩) hHeld ?_
      simp only [Act.put, List.setIfInBounds_toArray, List.set_cons_zero, List.set_cons_succ]
      refine wpAnyH_take (i := 6) (oi := ⟨some 30, _, _, _, _, _⟩) (v := (.pointer (some ⟨x, 3, none⟩))) rfl (by kernel_rfl) (by kernel_rfl) (by kernel_rfl) (fun _ _ _ h => h) (.inl ⟨by rfl, fun w hw => by dsimp only at hw; go_simp⟩) hHeld ?_
      simp only [Act.put, List.setIfInBounds_toArray, List.set_cons_zero, List.set_cons_succ]
      refine wpAnyH_take (i := 7) (oi := ⟨some 31, _, _, _, _, _⟩) (v := (.string (b))) rfl (by kernel_rfl) (by kernel_rfl) (by kernel_rfl) (fun _ _ _ h => h) (.inl ⟨by rfl, fun w hw => by dsimp only at hw; go_simp⟩) hHeld ?_
      simp only [Act.put, List.setIfInBounds_toArray, List.set_cons_zero, List.set_cons_succ]
      refine wpAnyH_take (i := 9) (oi := ⟨some 33, _, _, _, _, _⟩) (v := (.func (.func 40) #[] #[])) rfl (by kernel_rfl) (by kernel_rfl) (by kernel_rfl) (fun _ _ _ h => h) (.inl ⟨by rfl, fun w hw => by dsimp only at hw; go_simp⟩) hHeld ?_
      simp only [Act.put, List.setIfInBounds_toArray, List.set_cons_zero, List.set_cons_succ]
      refine wpAnyH_take (i := 10) (oi := ⟨some 34, _, _, _, _, _⟩) (v := (.pointer (some ⟨x, 4, none⟩))) rfl (by kernel_rfl) (by kernel_rfl) (by kernel_rfl) (fun _ _ _ h => h) (.inl ⟨by rfl, fun w hw => by dsimp only at hw; go_simp⟩) hHeld ?_
      simp only [Act.put, List.setIfInBounds_toArray, List.set_cons_zero, List.set_cons_succ]
      refine wpAnyH_take (i := 11) (oi := ⟨some 35, _, _, _, _, _⟩) (v := (.string (d))) rfl (by kernel_rfl) (by kernel_rfl) (by kernel_rfl) (fun _ _ _ h => h) (.inl ⟨by rfl, fun w hw => by dsimp only at hw; go_simp⟩) hHeld ?_
      simp only [Act.put, List.setIfInBounds_toArray, List.set_cons_zero, List.set_cons_succ]
      refine wpAnyH_ready (rs := [1]) (by kernel_rfl) (by simp) ?_
      refine AllReadyH.cons (o := ⟨some 25, _, _, _, _, _⟩) rfl (fun K hK => ?_) AllReadyH.nil
      go_simp
      refine (Hlow.out _).mono ?_
      rintro e V1 ⟨rfl, f1⟩
      have HF1 := Lib.hid (HF.out.trans f1)
      refine hK.out _ _ ⟨f1.cell hHeld.1 (fun h => h), f1.cell hHeld.2.1 (fun h => h), f1.cell hHeld.2.2.1 (fun h => h), f1.cell hHeld.2.2.2.1 (fun h => h), f1.cell hHeld.2.2.2.2.1 (fun h => h), hHeld.2.2.2.2.2.still f1⟩ (fun hHeld => ?_)
      clear hK K f1 HF
      refine wpAnyH_ready (rs := [3]) (by kernel_rfl) (by simp) ?_
      refine AllReadyH.cons (o := ⟨some 27, _, _, _, _, _⟩) rfl (fun K hK => ?_) AllReadyH.nil
      go_simp
      refine (Hhigh.out _).mono ?_
      rintro e V2 ⟨rfl, f2⟩
      have HF2 := Lib.hid (HF1.out.trans f2)
      refine hK.out _ _ ⟨f2.cell hHeld.1 (fun h => h), f2.cell hHeld.2.1 (fun h => h), f2.cell hHeld.2.2.1 (fun h => h), f2.cell hHeld.2.2.2.1 (fun h => h), f2.cell hHeld.2.2.2.2.1 (fun h => h), hHeld.2.2.2.2.2.still f2⟩ (fun hHeld => ?_)
      clear hK K f2 HF1
      refine wpAnyH_ready (rs := [8]) (by kernel_rfl) (by simp) ?_
      refine AllReadyH.cons (o := ⟨some 32, _, _, _, _, _⟩) rfl (fun K hK => ?_) AllReadyH.nil
      go_simp
      refine (Hu1.out _).mono ?_
      rintro e V3 ⟨rfl, f3⟩
      have HF3 := Lib.hid (HF2.out.trans f3)
      refine hK.out _ _ ⟨f3.cell hHeld.1 (fun h => h), f3.cell hHeld.2.1 (fun h => h), f3.cell hHeld.2.2.1 (fun h => h), f3.cell hHeld.2.2.2.1 (fun h => h), f3.cell hHeld.2.2.2.2.1 (fun h => h), hHeld.2.2.2.2.2.still f3⟩ (fun hHeld => ?_)
      clear hK K f3 HF2
      refine wpAnyH_ready (rs := [12]) (by kernel_rfl) (by simp) ?_
      refine AllReadyH.cons (o := ⟨some 36, _, _, _, _, _⟩) rfl (fun K hK => ?_) AllReadyH.nil
      go_simp
      refine (Hu2.out _).mono ?_
      rintro e V4 ⟨rfl, f4⟩
      have HF4 := Lib.hid (HF3.out.trans f4)
      refine hK.out _ _ ⟨f4.cell hHeld.1 (fun h => h), f4.cell hHeld.2.1 (fun h => h), f4.cell hHeld.2.2.1 (fun h => h), f4.cell hHeld.2.2.2.1 (fun h => h), f4.cell hHeld.2.2.2.2.1 (fun h => h), hHeld.2.2.2.2.2.still f4⟩ (fun hHeld => ?_)
      clear hK K f4 HF3
      refine wpAnyH_take (i := 13) (oi := ⟨some 37, _, _, _, _, _⟩) (v := (.agg #[.int .i64 (L), .int .i64 (H), .int .i64 (bits .or .i64 (bits .andNot .i64 O 4) 8), .string (U1), .string (U2)])) rfl (by kernel_rfl) (by kernel_rfl) (by kernel_rfl) (fun _ _ _ h => h) (.inl ⟨by rfl, fun w hw => by dsimp only at hw; go_simp⟩) hHeld ?_
      simp only [Act.put, List.setIfInBounds_toArray, List.set_cons_zero, List.set_cons_succ]
      refine wpAnyH_ready (rs := [14]) (by kernel_rfl) (by simp) ?_
      refine AllReadyH.cons (o := ⟨none, _, _, _, _, _⟩) rfl (fun K hK => ?_) AllReadyH.nil
      have hr5 := hHeld.2.2.2.2.2
      obtain ⟨u0, u1, u2, u3, u4, ⟨c0, c1, c2, c3, c4⟩, z0, z1, z2, z3, z4⟩ := hr5.facts
      go_simp
      clear c0 c1 c2 c3 c4 z0 z1 z2 z3 z4
      obtain ⟨V5, hV5, hrow5, hres5, hcell5⟩ := hr5.put (.int .i64 (L)) (.int .i64 (H)) (.int .i64 (bits .or .i64 (bits .andNot .i64 O 4) 8)) (.string (U1)) (.string (U2))
      rw [hV5]
      clear hV5 hr5
      refine hK.out _ _ ⟨hcell5 _ _ _ hnxg hHeld.1, hcell5 _ _ _ hnxg hHeld.2.1, hcell5 _ _ _ hnxg hHeld.2.2.1, hcell5 _ _ _ hnxg hHeld.2.2.2.1, hcell5 _ _ _ hnxg hHeld.2.2.2.2.1, hres5⟩ (fun hHeld => ?_)
      clear hK K hcell5
      refine wpAnyH_done (by kernel_rfl) ?_ _
      go_wp2_with fail
      exact ret_row Tryz.results38 hrow5 rfl rfl ⟨by rw [HR.out], hres5.frm⟩
  · have HR : Hid (R = none') := Lib.hid (by rw [HJ.out]; rfl)
    go_wp2_with fail
    refine (Hnone.out _).mono ?_
    rintro e V9 ⟨rfl, f9⟩
    have hres := hres.still f9
    clear f9
    obtain ⟨u0, u1, u2, u3, u4, ⟨c0, c1, c2, c3, c4⟩, z0, z1, z2, z3, z4⟩ := hres.facts
    have Hr := Lib.hid hres
    clear hres
    go_wp2_with fail
    exact Hr.out.ret Tryz.results38 rfl rfl fun W f => ⟨by rw [HR.out], f⟩

set_option maxRecDepth 100000 in
set_option maxHeartbeats 4000000 in
theorem shUp_any (p : Shp) (hp : p.bg.size ≤ 1000 ∧ p.en.size ≤ 1000) (hq : empB p = false → AscS p.bg ∧ AscS p.en) (w : World) : Calls Tryz.prog 9 #[shV p] w fun e w' => e = .returned (shV (casS 8 4 upC p)) ∧ Frm (fun _ => False) w w' := by
  have hc := casUp_any p hp hq
  generalize casS 8 4 upC p = R at *
  obtain ⟨l, h, c, b, d⟩ := p
  obtain ⟨r0, r1, r2, r3, r4⟩ := R
  unfold shV at *
  simp only at hc ⊢
  have Hc := Lib.hid hc
  clear hc hp hq
  go_enter Tryz.func9, Tryz.ntmps9
  go_upto_region 1 with fail
  obtain ⟨W1, x, g, hW, hg, hx, hf, ⟨a0, a1, a2, a3, a4⟩, hres, hnxg⟩ := one_res w l h c b d
  rw [hW, hg, hx]
  clear hW hg hx hf
  go_wp2_with fail
  refine (Hc.out _).mono ?_
  rintro e V1 ⟨rfl, f1⟩
  have hres := hres.still f1
  clear f1
  obtain ⟨u0, u1, u2, u3, u4, ⟨c0, c1, c2, c3, c4⟩, z0, z1, z2, z3, z4⟩ := hres.facts
  have Hr := Lib.hid hres
  clear hres
  go_wp2_with fail
  exact Hr.out.ret Tryz.results9 rfl rfl fun W f => ⟨rfl, f⟩

set_option maxRecDepth 100000 in
set_option maxHeartbeats 4000000 in
theorem shLo_any (p : Shp) (hp : p.bg.size ≤ 1000 ∧ p.en.size ≤ 1000) (hq : empB p = false → AscS p.bg ∧ AscS p.en) (w : World) : Calls Tryz.prog 11 #[shV p] w fun e w' => e = .returned (shV (casS 4 8 loC p)) ∧ Frm (fun _ => False) w w' := by
  have hc := casLo_any p hp hq
  generalize casS 4 8 loC p = R at *
  obtain ⟨l, h, c, b, d⟩ := p
  obtain ⟨r0, r1, r2, r3, r4⟩ := R
  unfold shV at *
  simp only at hc ⊢
  have Hc := Lib.hid hc
  clear hc hp hq
  go_enter Tryz.func11, Tryz.ntmps11
  go_upto_region 1 with fail
  obtain ⟨W1, x, g, hW, hg, hx, hf, ⟨a0, a1, a2, a3, a4⟩, hres, hnxg⟩ := one_res w l h c b d
  rw [hW, hg, hx]
  clear hW hg hx hf
  go_wp2_with fail
  refine (Hc.out _).mono ?_
  rintro e V1 ⟨rfl, f1⟩
  have hres := hres.still f1
  clear f1
  obtain ⟨u0, u1, u2, u3, u4, ⟨c0, c1, c2, c3, c4⟩, z0, z1, z2, z3, z4⟩ := hres.facts
  have Hr := Lib.hid hres
  clear hres
  go_wp2_with fail
  exact Hr.out.ret Tryz.results11 rfl rfl fun W f => ⟨rfl, f⟩

/-! ### Bytes of a text, replaced in place -/
structure ByB (w0 w : World) (g : Nat) (l : List UInt8) : Prop where
  frm : Frm (fun _ => False) w0 w
  new : w0.heap.size ≤ g
  row : ∃ cs a b, w.heap[g]? = some (.cells cs 5 (a, b)) ∧ l.length ≤ a ∧ ∀ j (h : j < l.length), cs[j]? = some (.int .u8 l[j].toNat)
theorem ByB.start (w : World) (s : ByteArray) : ByB w (Lib.bytesWorld w 5 s) w.heap.size s.data.toList := by
  refine ⟨Frm.of_below (Lib.bytesWorld_below w 5 s), Nat.le_refl _, _, _, _, Lib.bytesWorld_at_new w 5 s, ?_, fun j h => ?_⟩
  · unfold Lib.bytesCells
    rw [Array.size_append, Array.size_map, size_list]
    show s.size ≤ s.size + _
    omega
  · have hj : j < s.size := by rw [← size_list]; exact h
    have := Lib.bytesWorld_cell w 5 s j hj
    rw [cell_of_row _ _ _ _ _ _ (Lib.bytesWorld_at_new w 5 s)] at this
    rw [this, List.getD, List.getElem?_eq_getElem h]
    rfl
theorem ByB.cells {w0 w : World} {g : Nat} {l : List UInt8} (h : ByB w0 w g l) {j : Nat} (hj : j < l.length) : w.cell? ⟨g, j, none⟩ = some (.int .u8 l[j].toNat) ∧ w.frozen? ⟨g, j, none⟩ = false := by
  obtain ⟨cs, a, b, hr, ha, hc⟩ := h.row
  refine ⟨by rw [cell_of_row _ _ _ _ _ _ hr]; exact hc j hj, ?_⟩
  simp only [World.frozen?, hr]
  simp
  omega
theorem ByB.set {w0 w : World} {g : Nat} {l : List UInt8} (h : ByB w0 w g l) {j : Nat} (hj : j < l.length) (c : UInt8) : ByB w0 (w.setCell ⟨g, j, none⟩ (.int .u8 c.toNat)) g (l.set j c) := by
  obtain ⟨cs, a, b, hr, ha, hc⟩ := h.row
  refine ⟨h.frm.setCell (.inr h.new) _, h.new, _, a, b, Lib.heap_setCell_same hr _, by rw [List.length_set]; exact ha, fun i hi => ?_⟩
  rw [List.length_set] at hi
  rw [Array.getElem?_setIfInBounds]
  by_cases e : j = i
  · subst e
    have hlt : j < cs.size := (Array.getElem?_eq_some_iff.1 (hc j hj)).1
    rw [if_pos rfl, if_pos hlt, List.getElem_set_self]
  · rw [if_neg e, hc i hi, List.getElem_set_ne e]
theorem ByB.back {w0 w : World} {g : Nat} {l : List UInt8} (h : ByB w0 w g l) (n cap : Nat) (hn : n = l.length) : (convert 55 9 (.slice (some ⟨g, 0, none⟩) n cap)).run Tryz.prog w = .ok (.string ⟨l.toArray⟩) w := by
  subst hn
  exact run_convert_bytes_back (P := Tryz.prog) w 55 9 5 ⟨g, 0, none⟩ cap l Tryz.underlying55 Tryz.underlying5 Tryz.underlying9 (fun j hj => by
    rw [Addr.add_lit, Nat.zero_add]
    exact (h.cells hj).1)
/-- The first i are replaced. -/
def rsL (f : UInt8 → UInt8) (l : List UInt8) (i : Nat) : List UInt8 := (l.take i).map f ++ l.drop i
theorem rsL_len (f : UInt8 → UInt8) (l : List UInt8) (i : Nat) : (rsL f l i).length = l.length := by unfold rsL; rw [List.length_append, List.length_map, List.length_take, List.length_drop]; omega
theorem rsL_at {f : UInt8 → UInt8} {l : List UInt8} {i : Nat} (h : i < l.length) : (rsL f l i)[i]'(by rw [rsL_len]; exact h) = l[i] := by
  have hl : ((l.take i).map f).length = i := by rw [List.length_map, List.length_take]; omega
  simp only [rsL]
  rw [List.getElem_append_right (by omega), List.getElem_drop]
  congr 1
  omega
theorem rsL_succ {f : UInt8 → UInt8} {l : List UInt8} {i : Nat} (h : i < l.length) : rsL f l (i + 1) = (rsL f l i).set i (f l[i]) := by
  have hl : ((l.take i).map f).length = i := by rw [List.length_map, List.length_take]; omega
  unfold rsL
  rw [List.set_append_right _ _ (by omega), hl, Nat.sub_self, List.drop_eq_getElem_cons h, List.set_cons_zero, List.take_succ_eq_append_getElem h, List.map_append, List.map_singleton, List.append_assoc, List.singleton_append]
theorem rsL_same {f : UInt8 → UInt8} {l : List UInt8} {i : Nat} (h : i < l.length) (hf : f l[i] = l[i]) : rsL f l (i + 1) = rsL f l i := by
  rw [rsL_succ h, hf, ← rsL_at (f := f) h]
  exact @List.set_getElem_self _ (rsL f l i) i (by rw [rsL_len]; exact h)
theorem rsL_all (f : UInt8 → UInt8) (l : List UInt8) : rsL f l l.length = l.map f := by unfold rsL; rw [List.take_length, List.drop_length, List.append_nil]
theorem rsL_zero (f : UInt8 → UInt8) (l : List UInt8) : rsL f l 0 = l := rfl

set_option maxRecDepth 100000 in
set_option maxHeartbeats 4000000 in
theorem raised_any (s : ByteArray) (hs : s.size ≤ 1000000) (w : World) : Calls Tryz.prog 10 #[.string s] w fun e w' => e = .returned (.string (baM upC s)) ∧ Frm (fun _ => False) w w' := by
  have hl := size_list s
  have hcvt : ∀ w : World, (convert 9 55 (.string s)).run Tryz.prog w = .ok (.slice (some ⟨w.heap.size, 0, none⟩) s.size (grownCap w s.size 0 5)) (Lib.bytesWorld w 5 s) := fun w => Lib.run_convert_string_bytes w 9 55 5 s Tryz.underlying9 Tryz.underlying55 Tryz.underlying5
  have hB := ByB.start w s
  go_enter Tryz.func10, Tryz.ntmps10
  go_upto_region 2 with fail
  obtain ⟨W1, hW1⟩ : ∃ W, W = Lib.bytesWorld w 5 s := ⟨_, rfl⟩
  obtain ⟨g, hg⟩ : ∃ g, g = w.heap.size := ⟨_, rfl⟩
  obtain ⟨cp, hcp⟩ : ∃ c, c = grownCap w s.size 0 5 := ⟨_, rfl⟩
  rw [← hW1, ← hg] at hB
  rw [← hW1, ← hg, ← hcp]
  have HB : Hid (ByB w W1 g (rsL upC s.data.toList 0)) := Lib.hid hB
  clear hW1 hg hcp hB hcvt
  go_wp2_with fail
  go_loopw [4] (fun si wr => ∃ i : Nat, si = .int .i64 i ∧ i ≤ s.size ∧ Hid (ByB w wr g (rsL upC s.data.toList i))) (fun si _ => s.size - (intOf si).toNat)
  case atStart => exact ⟨0, rfl, Nat.zero_le _, HB⟩
  case round =>
    clear HB
    obtain ⟨i, rfl, hi, hB⟩ := hrel
    by_cases hlt : i < s.size
    · have hlt' : (i : Int) < (s.size : Int) := by omega
      have hil : i < s.data.toList.length := by omega
      obtain ⟨c0, z0⟩ := hB.out.cells (j := i) (by rw [rsL_len]; exact hil)
      rw [rsL_at hil] at c0
      have hsc := rsL_succ (f := upC) hil
      have hsm := rsL_same (f := upC) hil
      have hst := hB.out.set (j := i) (by rw [rsL_len]; exact hil) (upC s.data.toList[i])
      rw [← hsc] at hst
      have hB2 : upC s.data.toList[i] = s.data.toList[i] → ByB w wr g (rsL upC s.data.toList (i + 1)) := fun h => by rw [hsm h]; exact hB.out
      clear hB hsc hsm
      generalize s.data.toList[i] = c at *
      have hc8 := c.toNat_lt
      by_cases h1 : 97 ≤ c.toNat
      · have h1' : (97 : Int) ≤ (c.toNat : Int) := by omega
        by_cases h2 : c.toNat ≤ 122
        · have h2' : (c.toNat : Int) ≤ 122 := by omega
          have hv : ((upC c).toNat : Int) = (c.toNat : Int) - 32 := by
            unfold upC
            rw [if_pos ⟨h1, h2⟩]
            rw [UInt8.toNat_sub_of_le _ _ (by rw [UInt8.le_iff_toNat_le]; exact Nat.le_trans (by decide) h1)]; have : (32 : UInt8).toNat = 32 := rfl; omega
          rw [hv] at hst
          have hw8 : IntKind.u8.wrap ((c.toNat : Int) - 32) = (c.toNat : Int) - 32 := by unfold IntKind.wrap; simp [IntKind.bits, IntKind.signed]; omega
          have HB2 := Lib.hid hst
          clear hst hB2 hv h1 h2
          go_wp2_with fail
          go_roundw
          case rel => exact ⟨i + 1, by go_num, hlt, HB2⟩
          case measure => simp [intOf]; omega
        · have h2' : ¬ (c.toNat : Int) ≤ 122 := by omega
          have HB2 := Lib.hid (hB2 (by unfold upC; rw [if_neg (fun h => h2 h.2)]))
          clear hst hB2 h1 h2
          go_wp2_with fail
          go_roundw
          case rel => exact ⟨i + 1, by go_num, hlt, HB2⟩
          case measure => simp [intOf]; omega
      · have h1' : ¬ (97 : Int) ≤ (c.toNat : Int) := by omega
        have HB2 := Lib.hid (hB2 (by unfold upC; rw [if_neg (fun h => h1 h.1)]))
        clear hst hB2 h1
        go_wp2_with fail
        go_roundw
        case rel => exact ⟨i + 1, by go_num, hlt, HB2⟩
        case measure => simp [intOf]; omega
    · have hlt' : ¬ (i : Int) < (s.size : Int) := by omega
      obtain rfl : i = s.size := by omega
      have hB2 := hB.out
      rw [← hl, rsL_all] at hB2
      have hbk := hB2.back s.size cp (by rw [List.length_map]; exact hl.symm)
      have hfr := Lib.hid hB2.frm
      obtain ⟨U, hU⟩ : ∃ U : ByteArray, U = baM upC s := ⟨_, rfl⟩
      rw [show (⟨(s.data.toList.map upC).toArray⟩ : ByteArray) = U from hU.symm] at hbk
      have HU := Lib.hid hU
      clear hB hB2 hU
      go_wp2_with fail
      go_ret
      exact ⟨by rw [HU.out]; rfl, hfr.out⟩

set_option maxRecDepth 100000 in
set_option maxHeartbeats 4000000 in
theorem lowered_any (s : ByteArray) (hs : s.size ≤ 1000000) (w : World) : Calls Tryz.prog 12 #[.string s] w fun e w' => e = .returned (.string (baM loC s)) ∧ Frm (fun _ => False) w w' := by
  have hl := size_list s
  have hcvt : ∀ w : World, (convert 9 55 (.string s)).run Tryz.prog w = .ok (.slice (some ⟨w.heap.size, 0, none⟩) s.size (grownCap w s.size 0 5)) (Lib.bytesWorld w 5 s) := fun w => Lib.run_convert_string_bytes w 9 55 5 s Tryz.underlying9 Tryz.underlying55 Tryz.underlying5
  have hB := ByB.start w s
  go_enter Tryz.func12, Tryz.ntmps12
  go_upto_region 2 with fail
  obtain ⟨W1, hW1⟩ : ∃ W, W = Lib.bytesWorld w 5 s := ⟨_, rfl⟩
  obtain ⟨g, hg⟩ : ∃ g, g = w.heap.size := ⟨_, rfl⟩
  obtain ⟨cp, hcp⟩ : ∃ c, c = grownCap w s.size 0 5 := ⟨_, rfl⟩
  rw [← hW1, ← hg] at hB
  rw [← hW1, ← hg, ← hcp]
  have HB : Hid (ByB w W1 g (rsL loC s.data.toList 0)) := Lib.hid hB
  clear hW1 hg hcp hB hcvt
  go_wp2_with fail
  go_loopw [4] (fun si wr => ∃ i : Nat, si = .int .i64 i ∧ i ≤ s.size ∧ Hid (ByB w wr g (rsL loC s.data.toList i))) (fun si _ => s.size - (intOf si).toNat)
  case atStart => exact ⟨0, rfl, Nat.zero_le _, HB⟩
  case round =>
    clear HB
    obtain ⟨i, rfl, hi, hB⟩ := hrel
    by_cases hlt : i < s.size
    · have hlt' : (i : Int) < (s.size : Int) := by omega
      have hil : i < s.data.toList.length := by omega
      obtain ⟨c0, z0⟩ := hB.out.cells (j := i) (by rw [rsL_len]; exact hil)
      rw [rsL_at hil] at c0
      have hsc := rsL_succ (f := loC) hil
      have hsm := rsL_same (f := loC) hil
      have hst := hB.out.set (j := i) (by rw [rsL_len]; exact hil) (loC s.data.toList[i])
      rw [← hsc] at hst
      have hB2 : loC s.data.toList[i] = s.data.toList[i] → ByB w wr g (rsL loC s.data.toList (i + 1)) := fun h => by rw [hsm h]; exact hB.out
      clear hB hsc hsm
      generalize s.data.toList[i] = c at *
      have hc8 := c.toNat_lt
      by_cases h1 : 65 ≤ c.toNat
      · have h1' : (65 : Int) ≤ (c.toNat : Int) := by omega
        by_cases h2 : c.toNat ≤ 90
        · have h2' : (c.toNat : Int) ≤ 90 := by omega
          have hv : ((loC c).toNat : Int) = (c.toNat : Int) + 32 := by
            unfold loC
            rw [if_pos ⟨h1, h2⟩]
            rw [UInt8.toNat_add]; have : (32 : UInt8).toNat = 32 := rfl; omega
          rw [hv] at hst
          have hw8 : IntKind.u8.wrap ((c.toNat : Int) + 32) = (c.toNat : Int) + 32 := by unfold IntKind.wrap; simp [IntKind.bits, IntKind.signed]; omega
          have HB2 := Lib.hid hst
          clear hst hB2 hv h1 h2
          go_wp2_with fail
          go_roundw
          case rel => exact ⟨i + 1, by go_num, hlt, HB2⟩
          case measure => simp [intOf]; omega
        · have h2' : ¬ (c.toNat : Int) ≤ 90 := by omega
          have HB2 := Lib.hid (hB2 (by unfold loC; rw [if_neg (fun h => h2 h.2)]))
          clear hst hB2 h1 h2
          go_wp2_with fail
          go_roundw
          case rel => exact ⟨i + 1, by go_num, hlt, HB2⟩
          case measure => simp [intOf]; omega
      · have h1' : ¬ (65 : Int) ≤ (c.toNat : Int) := by omega
        have HB2 := Lib.hid (hB2 (by unfold loC; rw [if_neg (fun h => h1 h.1)]))
        clear hst hB2 h1
        go_wp2_with fail
        go_roundw
        case rel => exact ⟨i + 1, by go_num, hlt, HB2⟩
        case measure => simp [intOf]; omega
    · have hlt' : ¬ (i : Int) < (s.size : Int) := by omega
      obtain rfl : i = s.size := by omega
      have hB2 := hB.out
      rw [← hl, rsL_all] at hB2
      have hbk := hB2.back s.size cp (by rw [List.length_map]; exact hl.symm)
      have hfr := Lib.hid hB2.frm
      obtain ⟨U, hU⟩ : ∃ U : ByteArray, U = baM loC s := ⟨_, rfl⟩
      rw [show (⟨(s.data.toList.map loC).toArray⟩ : ByteArray) = U from hU.symm] at hbk
      have HU := Lib.hid hU
      clear hB hB2 hU
      go_wp2_with fail
      go_ret
      exact ⟨by rw [HU.out]; rfl, hfr.out⟩
end Go.Proofs.YtgnjakaamgeibaaGreatDoor
