/-
  shape.word, Text; the reference's Decimal, Text: what the code does. Conditions: the laid table; the strings are short.
-/
import Derived.Test.YtgnjakaamgeibaaGreatDoorSh2
import Derived.Test.YtgnjakaamgeibaaGreatDoorDec
import Derived.Lib.ItoaLen
namespace Go.Proofs.YtgnjakaamgeibaaGreatDoor
open Go.RowKit Go.Shelf
attribute [local go_sem] Oper.semAt_some
def baS (l : List UInt8) : ByteArray := ⟨l.toArray⟩
theorem baS_size (l : List UInt8) : (baS l).size = l.length := by
  show l.toArray.size = _
  rw [List.size_toArray]
def wordS (s : ByteArray) : ByteArray := baS (Lib.itoa s.size) ++ ⟨#[58]⟩ ++ s
def txS (a : Shp) : ByteArray := baS (Lib.itoa a.lo) ++ ⟨#[32]⟩ ++ baS (Lib.itoa a.hi) ++ ⟨#[32]⟩ ++ baS (Lib.itoa a.cl) ++ ⟨#[32]⟩ ++ wordS a.bg ++ ⟨#[32]⟩ ++ wordS a.en
theorem itoa_size (n : Int) (h0 : -9223372036854775808 ≤ n) (h1 : n ≤ 9223372036854775807) : (baS (Lib.itoa n)).size ≤ 21 := by
  rw [baS_size]
  exact Lib.itoa_length_le n h0 h1
theorem word_any (s : ByteArray) (hs : s.size ≤ 1000) (w : World) (hT : Tabs w) : Calls Tryz.prog 55 #[.string s] w fun e w' => e = .returned (.string (wordS s)) ∧ Frm (fun _ => False) w w' := by
  have hi := itoa_any s.size (by omega) (by omega) w hT
  have hz := itoa_size s.size (by omega) (by omega)
  have hw : wordS s = baS (Lib.itoa s.size) ++ ⟨#[58]⟩ ++ s := rfl
  rw [hw]
  rw [show strV (Lib.itoa s.size) = .string (baS (Lib.itoa s.size)) from rfl] at hi
  generalize baS (Lib.itoa s.size) = A at *
  have c1 : ¬ 9223372036854775807 < A.size + (⟨#[58]⟩ : ByteArray).size := by show ¬ 9223372036854775807 < A.size + 1; omega
  have c2 : ¬ 9223372036854775807 < (A ++ ⟨#[58]⟩).size + s.size := by rw [ByteArray.size_append]; show ¬ 9223372036854775807 < A.size + 1 + s.size; omega
  clear hw hT
  go_enter Tryz.func55, Tryz.ntmps55
  go_wp2_with fail
  refine hi.mono ?_
  rintro e w1 ⟨rfl, f1⟩
  go_wp2_with fail
  go_ret
  exact ⟨rfl, f1⟩
set_option maxRecDepth 100000 in
set_option maxHeartbeats 4000000 in
theorem text_any (a : Shp) (ha : ShOk a) (w : World) (hT : Tabs w) : Calls Tryz.prog 21 #[shV a] w fun e w' => e = .returned (.string (txS a)) ∧ Frm (fun _ => False) w w' := by
  have h1 := fun (W : World) (f : Frm (fun _ => False) w W) => itoa_any a.lo ha.lo.1 ha.lo.2 W (hT.frm f)
  have h2 := fun (W : World) (f : Frm (fun _ => False) w W) => itoa_any a.hi ha.hi.1 ha.hi.2 W (hT.frm f)
  have h3 := fun (W : World) (f : Frm (fun _ => False) w W) => itoa_any a.cl ha.cl.1 ha.cl.2 W (hT.frm f)
  have h4 := fun (W : World) (f : Frm (fun _ => False) w W) => word_any a.bg ha.bg W (hT.frm f)
  have h5 := fun (W : World) (f : Frm (fun _ => False) w W) => word_any a.en ha.en W (hT.frm f)
  have z1 := itoa_size a.lo ha.lo.1 ha.lo.2
  have z2 := itoa_size a.hi ha.hi.1 ha.hi.2
  have z3 := itoa_size a.cl ha.cl.1 ha.cl.2
  have hws : ∀ s : ByteArray, s.size ≤ 1000 → (wordS s).size ≤ 2000 := fun s hs => by
    unfold wordS
    rw [ByteArray.size_append, ByteArray.size_append]
    have := itoa_size s.size (by omega) (by omega)
    show _ + 1 + _ ≤ _
    omega
  have z4 := hws _ ha.bg
  have z5 := hws _ ha.en
  unfold txS
  rw [show strV (Lib.itoa a.lo) = .string (baS (Lib.itoa a.lo)) from rfl] at h1
  rw [show strV (Lib.itoa a.hi) = .string (baS (Lib.itoa a.hi)) from rfl] at h2
  rw [show strV (Lib.itoa a.cl) = .string (baS (Lib.itoa a.cl)) from rfl] at h3
  generalize baS (Lib.itoa a.lo) = A1 at *
  generalize baS (Lib.itoa a.hi) = A2 at *
  generalize baS (Lib.itoa a.cl) = A3 at *
  generalize wordS a.bg = A4 at *
  generalize wordS a.en = A5 at *
  clear hws hT ha
  obtain ⟨l, h, c, b, d⟩ := a
  unfold shV
  simp only at h1 h2 h3 h4 h5 ⊢
  have H1 := Lib.hid h1
  have H2 := Lib.hid h2
  have H3 := Lib.hid h3
  have H4 := Lib.hid h4
  have H5 := Lib.hid h5
  clear h1 h2 h3 h4 h5
  have hsp : (⟨#[32]⟩ : ByteArray).size = 1 := rfl
  have hco : (⟨#[58]⟩ : ByteArray).size = 1 := rfl
  go_enter Tryz.func21, Tryz.ntmps21
  go_upto_region 1 with fail
  obtain ⟨W1, x, hW, hx, hf, a0, a1, a2, a3, a4⟩ := one_sh w l h c b d
  rw [hW, hx]
  have HF := Lib.hid hf.drew
  clear hW hx hf
  refine wp_region_held_drew (S := fun w' => w'.cell? ⟨x, 0, none⟩ = some (.int .i64 (l)) ∧ w'.cell? ⟨x, 1, none⟩ = some (.int .i64 (h)) ∧ w'.cell? ⟨x, 2, none⟩ = some (.int .i64 (c)) ∧ w'.cell? ⟨x, 3, none⟩ = some (.string (b)) ∧ w'.cell? ⟨x, 4, none⟩ = some (.string (d))) (by kernel_rfl) ⟨a0, a1, a2, a3, a4⟩ (fun hHeld => ?_)
  refine wpAnyH_take (i := 0) (oi := ⟨some 4, _, _, _, _, _⟩) (v := (.pointer (some ⟨x, 0, none⟩))) rfl (by kernel_rfl) (by kernel_rfl) (by kernel_rfl) (fun _ _ _ h => h) (.inl ⟨by rfl, fun w hw => by dsimp only at hw; go_simp⟩) hHeld ?_
  simp only [Act.put, List.setIfInBounds_toArray, List.set_cons_zero, List.set_cons_succ]
  refine wpAnyH_take (i := 1) (oi := ⟨some 5, _, _, _, _, _⟩) (v := (.int .i64 (l))) rfl (by kernel_rfl) (by kernel_rfl) (by kernel_rfl) (fun _ _ _ h => h) (.inl ⟨by rfl, fun w hw => by dsimp only at hw; go_simp⟩) hHeld ?_
  simp only [Act.put, List.setIfInBounds_toArray, List.set_cons_zero, List.set_cons_succ]
  refine wpAnyH_take (i := 4) (oi := ⟨some 8, _, _, _, _, _⟩) (v := (.pointer (some ⟨x, 1, none⟩))) rfl (by kernel_rfl) (by kernel_rfl) (by kernel_rfl) (fun _ _ _ h => h) (.inl ⟨by rfl, fun w hw => by dsimp only at hw; go_simp⟩) hHeld ?_
  simp only [Act.put, List.setIfInBounds_toArray, List.set_cons_zero, List.set_cons_succ]
  refine wpAnyH_take (i := 5) (oi := ⟨some 9, _, _, _, _, _⟩) (v := (.int .i64 (h))) rfl (by kernel_rfl) (by kernel_rfl) (by kernel_rfl) (fun _ _ _ h => h) (.inl ⟨by rfl, fun w hw => by dsimp only at hw; go_simp⟩) hHeld ?_
  simp only [Act.put, List.setIfInBounds_toArray, List.set_cons_zero, List.set_cons_succ]
  refine wpAnyH_take (i := 9) (oi := ⟨some 13, _, _, _, _, _⟩) (v := (.pointer (some ⟨x, 2, none⟩))) rfl (by kernel_rfl) (by kernel_rfl) (by kernel_rfl) (fun _ _ _ h => h) (.inl ⟨by rfl, fun w hw => by dsimp only at hw; go_simp⟩) hHeld ?_
  simp only [Act.put, List.setIfInBounds_toArray, List.set_cons_zero, List.set_cons_succ]
  refine wpAnyH_take (i := 10) (oi := ⟨some 14, _, _, _, _, _⟩) (v := (.int .i64 (c))) rfl (by kernel_rfl) (by kernel_rfl) (by kernel_rfl) (fun _ _ _ h => h) (.inl ⟨by rfl, fun w hw => by dsimp only at hw; go_simp⟩) hHeld ?_
  simp only [Act.put, List.setIfInBounds_toArray, List.set_cons_zero, List.set_cons_succ]
  refine wpAnyH_ready (rs := [2]) (by kernel_rfl) (by simp) ?_
  refine AllReadyH.cons (o := ⟨some 6, _, _, _, _, _⟩) rfl (fun K hK => ?_) AllReadyH.nil
  go_simp
  refine (H1.out _ HF.out).mono ?_
  rintro e V1 ⟨rfl, f1⟩
  have HF1 := Lib.hid (HF.out.trans f1)
  refine hK.out _ _ ⟨f1.cell hHeld.1 (fun h => h), f1.cell hHeld.2.1 (fun h => h), f1.cell hHeld.2.2.1 (fun h => h), f1.cell hHeld.2.2.2.1 (fun h => h), f1.cell hHeld.2.2.2.2 (fun h => h)⟩ (fun hHeld => ?_)
  clear hK K f1 HF
  refine wpAnyH_take (i := 3) (oi := ⟨some 7, _, _, _, _, _⟩) (v := (.string ((A1) ++ (⟨#[32]⟩)))) rfl (by kernel_rfl) (by kernel_rfl) (by kernel_rfl) (fun _ _ _ h => h) (.inl ⟨by rfl, fun w hw => by dsimp only at hw; go_simp; all_goals omega⟩) hHeld ?_
  simp only [Act.put, List.setIfInBounds_toArray, List.set_cons_zero, List.set_cons_succ]
  refine wpAnyH_ready (rs := [6]) (by kernel_rfl) (by simp) ?_
  refine AllReadyH.cons (o := ⟨some 10, _, _, _, _, _⟩) rfl (fun K hK => ?_) AllReadyH.nil
  go_simp
  refine (H2.out _ HF1.out).mono ?_
  rintro e V2 ⟨rfl, f2⟩
  have HF2 := Lib.hid (HF1.out.trans f2)
  refine hK.out _ _ ⟨f2.cell hHeld.1 (fun h => h), f2.cell hHeld.2.1 (fun h => h), f2.cell hHeld.2.2.1 (fun h => h), f2.cell hHeld.2.2.2.1 (fun h => h), f2.cell hHeld.2.2.2.2 (fun h => h)⟩ (fun hHeld => ?_)
  clear hK K f2 HF1
  refine wpAnyH_take (i := 7) (oi := ⟨some 11, _, _, _, _, _⟩) (v := (.string (((A1) ++ (⟨#[32]⟩)) ++ (A2)))) rfl (by kernel_rfl) (by kernel_rfl) (by kernel_rfl) (fun _ _ _ h => h) (.inl ⟨by rfl, fun w hw => by dsimp only at hw; go_simp; all_goals omega⟩) hHeld ?_
  simp only [Act.put, List.setIfInBounds_toArray, List.set_cons_zero, List.set_cons_succ]
  refine wpAnyH_take (i := 8) (oi := ⟨some 12, _, _, _, _, _⟩) (v := (.string ((((A1) ++ (⟨#[32]⟩)) ++ (A2)) ++ (⟨#[32]⟩)))) rfl (by kernel_rfl) (by kernel_rfl) (by kernel_rfl) (fun _ _ _ h => h) (.inl ⟨by rfl, fun w hw => by dsimp only at hw; go_simp; all_goals omega⟩) hHeld ?_
  simp only [Act.put, List.setIfInBounds_toArray, List.set_cons_zero, List.set_cons_succ]
  refine wpAnyH_ready (rs := [11]) (by kernel_rfl) (by simp) ?_
  refine AllReadyH.cons (o := ⟨some 15, _, _, _, _, _⟩) rfl (fun K hK => ?_) AllReadyH.nil
  go_simp
  refine (H3.out _ HF2.out).mono ?_
  rintro e V3 ⟨rfl, f3⟩
  have HF3 := Lib.hid (HF2.out.trans f3)
  refine hK.out _ _ ⟨f3.cell hHeld.1 (fun h => h), f3.cell hHeld.2.1 (fun h => h), f3.cell hHeld.2.2.1 (fun h => h), f3.cell hHeld.2.2.2.1 (fun h => h), f3.cell hHeld.2.2.2.2 (fun h => h)⟩ (fun hHeld => ?_)
  clear hK K f3 HF2
  refine wpAnyH_take (i := 12) (oi := ⟨some 16, _, _, _, _, _⟩) (v := (.string (((((A1) ++ (⟨#[32]⟩)) ++ (A2)) ++ (⟨#[32]⟩)) ++ (A3)))) rfl (by kernel_rfl) (by kernel_rfl) (by kernel_rfl) (fun _ _ _ h => h) (.inl ⟨by rfl, fun w hw => by dsimp only at hw; go_simp; all_goals omega⟩) hHeld ?_
  simp only [Act.put, List.setIfInBounds_toArray, List.set_cons_zero, List.set_cons_succ]
  refine wpAnyH_take (i := 13) (oi := ⟨some 3, _, _, _, _, _⟩) (v := (.string (((((A1) ++ (⟨#[32]⟩)) ++ (A2)) ++ (⟨#[32]⟩)) ++ (A3)))) rfl (by kernel_rfl) (by kernel_rfl) (by kernel_rfl) (fun _ _ _ h => h) (.inl ⟨by rfl, fun w hw => by dsimp only at hw; go_simp⟩) hHeld ?_
  simp only [Act.put, List.setIfInBounds_toArray, List.set_cons_zero, List.set_cons_succ]
  refine wpAnyH_done (by kernel_rfl) ?_ _
  obtain ⟨a0, a1, a2, a3, a4⟩ := hHeld
  obtain ⟨Y, hY⟩ : ∃ Y, Y = A1 ++ ⟨#[32]⟩ ++ A2 ++ ⟨#[32]⟩ ++ A3 := ⟨_, rfl⟩
  have zY : Y.size ≤ 1000 := by rw [hY]; simp only [ByteArray.size_append, hsp]; omega
  rw [← hY]
  have HY := Lib.hid hY
  clear hY
  go_upto_region 2 with fail
  have HG := Lib.hid HF3.out.drew
  clear HF3
  refine wp_region_held_drew (S := fun w' => w'.cell? ⟨x, 0, none⟩ = some (.int .i64 (l)) ∧ w'.cell? ⟨x, 1, none⟩ = some (.int .i64 (h)) ∧ w'.cell? ⟨x, 2, none⟩ = some (.int .i64 (c)) ∧ w'.cell? ⟨x, 3, none⟩ = some (.string (b)) ∧ w'.cell? ⟨x, 4, none⟩ = some (.string (d))) (by kernel_rfl) ⟨a0, a1, a2, a3, a4⟩ (fun hHeld => ?_)
  refine wpAnyH_take (i := 0) (oi := ⟨some 17, _, _, _, _, _⟩) (v := (.string (Y))) rfl (by kernel_rfl) (by kernel_rfl) (by kernel_rfl) (fun _ _ _ h => h) (.inl ⟨by rfl, fun w hw => by dsimp only at hw; go_simp⟩) hHeld ?_
  simp only [Act.put, List.setIfInBounds_toArray, List.set_cons_zero, List.set_cons_succ]
  refine wpAnyH_take (i := 1) (oi := ⟨some 18, _, _, _, _, _⟩) (v := (.string ((Y) ++ (⟨#[32]⟩)))) rfl (by kernel_rfl) (by kernel_rfl) (by kernel_rfl) (fun _ _ _ h => h) (.inl ⟨by rfl, fun w hw => by dsimp only at hw; go_simp; all_goals omega⟩) hHeld ?_
  simp only [Act.put, List.setIfInBounds_toArray, List.set_cons_zero, List.set_cons_succ]
  refine wpAnyH_take (i := 2) (oi := ⟨some 19, _, _, _, _, _⟩) (v := (.pointer (some ⟨x, 3, none⟩))) rfl (by kernel_rfl) (by kernel_rfl) (by kernel_rfl) (fun _ _ _ h => h) (.inl ⟨by rfl, fun w hw => by dsimp only at hw; go_simp⟩) hHeld ?_
  simp only [Act.put, List.setIfInBounds_toArray, List.set_cons_zero, List.set_cons_succ]
  refine wpAnyH_take (i := 3) (oi := ⟨some 20, _, _, _, _, _⟩) (v := (.string (b))) rfl (by kernel_rfl) (by kernel_rfl) (by kernel_rfl) (fun _ _ _ h => h) (.inl ⟨by rfl, fun w hw => by dsimp only at hw; go_simp⟩) hHeld ?_
  simp only [Act.put, List.setIfInBounds_toArray, List.set_cons_zero, List.set_cons_succ]
  refine wpAnyH_take (i := 7) (oi := ⟨some 24, _, _, _, _, _⟩) (v := (.pointer (some ⟨x, 4, none⟩))) rfl (by kernel_rfl) (by kernel_rfl) (by kernel_rfl) (fun _ _ _ h => h) (.inl ⟨by rfl, fun w hw => by dsimp only at hw; go_simp⟩) hHeld ?_
  simp only [Act.put, List.setIfInBounds_toArray, List.set_cons_zero, List.set_cons_succ]
  refine wpAnyH_take (i := 8) (oi := ⟨some 25, _, _, _, _, _⟩) (v := (.string (d))) rfl (by kernel_rfl) (by kernel_rfl) (by kernel_rfl) (fun _ _ _ h => h) (.inl ⟨by rfl, fun w hw => by dsimp only at hw; go_simp⟩) hHeld ?_
  simp only [Act.put, List.setIfInBounds_toArray, List.set_cons_zero, List.set_cons_succ]
  refine wpAnyH_ready (rs := [4]) (by kernel_rfl) (by simp) ?_
  refine AllReadyH.cons (o := ⟨some 21, _, _, _, _, _⟩) rfl (fun K hK => ?_) AllReadyH.nil
  go_simp
  refine (H4.out _ HG.out).mono ?_
  rintro e Vq1 ⟨rfl, fq1⟩
  have HFq1 := Lib.hid (HG.out.trans fq1)
  refine hK.out _ _ ⟨fq1.cell hHeld.1 (fun h => h), fq1.cell hHeld.2.1 (fun h => h), fq1.cell hHeld.2.2.1 (fun h => h), fq1.cell hHeld.2.2.2.1 (fun h => h), fq1.cell hHeld.2.2.2.2 (fun h => h)⟩ (fun hHeld => ?_)
  clear hK K fq1 HG
  refine wpAnyH_take (i := 5) (oi := ⟨some 22, _, _, _, _, _⟩) (v := (.string (((Y) ++ (⟨#[32]⟩)) ++ (A4)))) rfl (by kernel_rfl) (by kernel_rfl) (by kernel_rfl) (fun _ _ _ h => h) (.inl ⟨by rfl, fun w hw => by dsimp only at hw; go_simp; all_goals omega⟩) hHeld ?_
  simp only [Act.put, List.setIfInBounds_toArray, List.set_cons_zero, List.set_cons_succ]
  refine wpAnyH_take (i := 6) (oi := ⟨some 23, _, _, _, _, _⟩) (v := (.string ((((Y) ++ (⟨#[32]⟩)) ++ (A4)) ++ (⟨#[32]⟩)))) rfl (by kernel_rfl) (by kernel_rfl) (by kernel_rfl) (fun _ _ _ h => h) (.inl ⟨by rfl, fun w hw => by dsimp only at hw; go_simp; all_goals omega⟩) hHeld ?_
  simp only [Act.put, List.setIfInBounds_toArray, List.set_cons_zero, List.set_cons_succ]
  refine wpAnyH_ready (rs := [9]) (by kernel_rfl) (by simp) ?_
  refine AllReadyH.cons (o := ⟨some 26, _, _, _, _, _⟩) rfl (fun K hK => ?_) AllReadyH.nil
  go_simp
  refine (H5.out _ HFq1.out).mono ?_
  rintro e Vq2 ⟨rfl, fq2⟩
  have HFq2 := Lib.hid (HFq1.out.trans fq2)
  refine hK.out _ _ ⟨fq2.cell hHeld.1 (fun h => h), fq2.cell hHeld.2.1 (fun h => h), fq2.cell hHeld.2.2.1 (fun h => h), fq2.cell hHeld.2.2.2.1 (fun h => h), fq2.cell hHeld.2.2.2.2 (fun h => h)⟩ (fun hHeld => ?_)
  clear hK K fq2 HFq1
  refine wpAnyH_take (i := 10) (oi := ⟨some 27, _, _, _, _, _⟩) (v := (.string (((((Y) ++ (⟨#[32]⟩)) ++ (A4)) ++ (⟨#[32]⟩)) ++ (A5)))) rfl (by kernel_rfl) (by kernel_rfl) (by kernel_rfl) (fun _ _ _ h => h) (.inl ⟨by rfl, fun w hw => by dsimp only at hw; go_simp; all_goals omega⟩) hHeld ?_
  simp only [Act.put, List.setIfInBounds_toArray, List.set_cons_zero, List.set_cons_succ]
  refine wpAnyH_take (i := 11) (oi := ⟨some 2, _, _, _, _, _⟩) (v := (.string (((((Y) ++ (⟨#[32]⟩)) ++ (A4)) ++ (⟨#[32]⟩)) ++ (A5)))) rfl (by kernel_rfl) (by kernel_rfl) (by kernel_rfl) (fun _ _ _ h => h) (.inl ⟨by rfl, fun w hw => by dsimp only at hw; go_simp⟩) hHeld ?_
  simp only [Act.put, List.setIfInBounds_toArray, List.set_cons_zero, List.set_cons_succ]
  refine wpAnyH_done (by kernel_rfl) ?_ _
  clear hsp hco z1 z2 z3 z4 z5 zY
  go_wp2_with fail
  go_ret
  exact ⟨by rw [← HY.out]; rfl, HFq2.out⟩
end Go.Proofs.YtgnjakaamgeibaaGreatDoor
