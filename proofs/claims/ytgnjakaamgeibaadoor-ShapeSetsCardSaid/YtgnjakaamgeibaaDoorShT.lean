/-
  shape.word, Text; the reference's Decimal, Text: what the code does. Conditions: the laid table; the strings are short.
-/
import Derived.Test.YtgnjakaamgeibaaDoorSh2
import Derived.Test.YtgnjakaamgeibaaDoorDec
import Derived.Lib.ItoaLen
namespace Go.Proofs.YtgnjakaamgeibaaDoor
open Go.RowKit Go.Shelf
attribute [local go_sem] Oper.semAt_some

def baS (l : List UInt8) : ByteArray := ⟨l.toArray⟩
theorem baS_size (l : List UInt8) : (baS l).size = l.length := by
  show l.toArray.size = _
  rw [List.size_toArray]
def wordS (s : ByteArray) : ByteArray := baS (Lib.itoa s.size) ++ ⟨#[58]⟩ ++ s
def txS (a : Shp) : ByteArray := baS (Lib.itoa a.lo) ++ ⟨#[32]⟩ ++ baS (Lib.itoa a.hi) ++ ⟨#[32]⟩ ++ baS (Lib.itoa a.cl) ++ ⟨#[32]⟩ ++ wordS a.bg ++ ⟨#[32]⟩ ++ wordS a.en
theorem itoa_size (n : Int) (h0 : -9223372036854775808 ≤ n) (h1 : n ≤ 9223372036854775807) : (baS (Lib.itoa n)).size ≤ 21 := by
  rw [baS_size]
  exact Lib.itoa_length_le n h0 h1
theorem word_any (s : ByteArray) (hs : s.size ≤ 1000) (w : World) (hT : Tabs w) : Calls Tryd.prog 73 #[.string s] w fun e w' => e = .returned (.string (wordS s)) ∧ Frm (fun _ => False) w w' := by
  have hi := itoa_any s.size (by omega) (by omega) w hT
  have hz := itoa_size s.size (by omega) (by omega)
  have hw : wordS s = baS (Lib.itoa s.size) ++ ⟨#[58]⟩ ++ s := rfl
  rw [hw]
  rw [show strV (Lib.itoa s.size) = .string (baS (Lib.itoa s.size)) from rfl] at hi
  generalize baS (Lib.itoa s.size) = A at *
  have c1 : ¬ 9223372036854775807 < A.size + (⟨#[58]⟩ : ByteArray).size := by show ¬ 9223372036854775807 < A.size + 1; omega
  have c2 : ¬ 9223372036854775807 < (A ++ ⟨#[58]⟩).size + s.size := by rw [ByteArray.size_append]; show ¬ 9223372036854775807 < A.size + 1 + s.size; omega
  clear hw hT
  go_enter Tryd.func73, Tryd.ntmps73
  go_wp2_with fail
  refine hi.mono ?_
  rintro e w1 ⟨rfl, f1⟩
  go_wp2_with fail
  go_ret
  exact ⟨rfl, f1⟩
set_option maxRecDepth 100000 in
set_option maxHeartbeats 4000000 in
theorem text_any (a : Shp) (ha : ShOk a) (w : World) (hT : Tabs w) : Calls Tryd.prog 23 #[shV a] w fun e w' => e = .returned (.string (txS a)) ∧ Frm (fun _ => False) w w' := by
  have h1 := fun (W : World) (f : Frm (fun _ => False) w W) => itoa_any a.lo ha.lo.1 ha.lo.2 W (hT.frm f)
  have h2 := fun (W : World) (f : Frm (fun _ => False) w W) => itoa_any a.hi ha.hi.1 ha.hi.2 W (hT.frm f)
  have h3 := fun (W : World) (f : Frm (fun _ => False) w W) => itoa_any a.cl ha.cl.1 ha.cl.2 W (hT.frm f)
  have h4 := fun (W : World) (f : Frm (fun _ => False) w W) => word_any a.bg ha.bg W (hT.frm f)
  have h5 := fun (W : World) (f : Frm (fun _ => False) w W) => word_any a.en ha.en W (hT.frm f)
  have z1 := itoa_size a.lo ha.lo.1 ha.lo.2
  have z2 := itoa_size a.hi ha.hi.1 ha.hi.2
  have z3 := itoa_size a.cl ha.cl.1 ha.cl.2
  have hws : ∀ s : ByteArray, s.size ≤ 1000 → (wordS s).size ≤ 2000 := fun s hs => by
    unfold wordS
    rw [ByteArray.size_append, ByteArray.size_append]
    have := itoa_size s.size (by omega) (by omega)
    show _ + 1 + _ ≤ _
    omega
  have z4 := hws _ ha.bg
  have z5 := hws _ ha.en
  unfold txS
  rw [show strV (Lib.itoa a.lo) = .string (baS (Lib.itoa a.lo)) from rfl] at h1
  rw [show strV (Lib.itoa a.hi) = .string (baS (Lib.itoa a.hi)) from rfl] at h2
  rw [show strV (Lib.itoa a.cl) = .string (baS (Lib.itoa a.cl)) from rfl] at h3
  generalize baS (Lib.itoa a.lo) = A1 at *
  generalize baS (Lib.itoa a.hi) = A2 at *
  generalize baS (Lib.itoa a.cl) = A3 at *
  generalize wordS a.bg = A4 at *
  generalize wordS a.en = A5 at *
  clear hws hT ha
  obtain ⟨l, h, c, b, d⟩ := a
  unfold shV
  simp only at h1 h2 h3 h4 h5 ⊢
  have H1 := Lib.hid h1
  have H2 := Lib.hid h2
  have H3 := Lib.hid h3
  have H4 := Lib.hid h4
  have H5 := Lib.hid h5
  clear h1 h2 h3 h4 h5
  have hsp : (⟨#[32]⟩ : ByteArray).size = 1 := rfl
  have hco : (⟨#[58]⟩ : ByteArray).size = 1 := rfl
  go_enter Tryd.func23, Tryd.ntmps23
  go_upto_region 1 with fail
  obtain ⟨W1, x, hW, hx, hf, a0, a1, a2, a3, a4⟩ := one_sh w l h c b d
  rw [hW, hx]
  have HF := Lib.hid hf.drew
  clear hW hx hf
  refine wp_region_held_drew (S := fun w' => w'.cell? ⟨x, 0, none⟩ = some (.int .i64 (l)) ∧ w'.cell? ⟨x, 1, none⟩ = some (.int .i64 (h)) ∧ w'.cell? ⟨x, 2, none⟩ = some (.int .i64 (c)) ∧ w'.cell? ⟨x, 3, none⟩ = some (.string (b)) ∧ w'.cell? ⟨x, 4, none⟩ = some (.string (d))) (by kernel_rfl) ⟨a0, a1, a2, a3, a4⟩ (fun hHeld => ?_)
  refine wpAnyH_take (i := 0) (oi := ⟨some 4, _, _, _, _, _⟩) (v := (.pointer (some ⟨x, 0, none⟩))) rfl (by kernel_rfl) (by kernel_rfl) (by kernel_rfl) (fun _ _ _ h => h) (.inl ⟨by rfl, fun w hw => by dsimp only at hw; go_simp⟩) hHeld ?_
  simp only [Act.put, List.setIfInBounds_toArray, List.set_cons_zero, List.set_cons_succ]
  refine wpAnyH_take (i := 1) (oi := ⟨some 5, _, _, _, _, _⟩) (v := (.int .i64 (l))) rfl (by kernel_rfl) (by kernel_rfl) (by kernel_rfl) (fun _ _ _ h => h) (.inl ⟨by rfl, fun w hw => by dsimp only at hw; go_simp⟩) hHeld ?_
  simp only [Act.put, List.setIfInBounds_toArray, List.set_cons_zero, List.set_cons_succ]
  refine wpAnyH_take (i := 4) (oi := ⟨some 8, _, _, _, _, _⟩) (v := (.pointer (some ⟨x, 1, none⟩))) rfl (by kernel_rfl) (by kernel_rfl) (by kernel_rfl) (fun _ _ _ h => h) (.inl ⟨by rfl, fun w hw => by dsimp only at hw; go_simp⟩) hHeld ?_
  simp only [Act.put, List.setIfInBounds_toArray, List.set_cons_zero, List.set_cons_succ]
  refine wpAnyH_take (i := 5) (oi := ⟨some 9, _, _, _, _, _⟩) (v := (.int .i64 (h))) rfl (by kernel_rfl) (by kernel_rfl) (by kernel_rfl) (fun _ _ _ h => h) (.inl ⟨by rfl, fun w hw => by dsimp only at hw; go_simp⟩) hHeld ?_
  simp only [Act.put, List.setIfInBounds_toArray, List.set_cons_zero, List.set_cons_succ]
  refine wpAnyH_take (i := 9) (oi := ⟨some 13, _, _, _, _, _⟩) (v := (.pointer (some ⟨x, 2, none⟩))) rfl (by kernel_rfl) (by kernel_rfl) (by kernel_rfl) (fun _ _ _ h => h) (.inl ⟨by rfl, fun w hw => by dsimp only at hw; go_simp⟩) hHeld ?_
  simp only [Act.put, List.setIfInBounds_toArray, List.set_cons_zero, List.set_cons_succ]
  refine wpAnyH_take (i := 10) (oi := ⟨some 14, _, _, _, _, _⟩) (v := (.int .i64 (c))) rfl (by kernel_rfl) (by kernel_rfl) (by kernel_rfl) (fun _ _ _ h => h) (.inl ⟨by rfl, fun w hw => by dsimp only at hw; go_simp⟩) hHeld ?_
  simp only [Act.put, List.setIfInBounds_toArray, List.set_cons_zero, List.set_cons_succ]
  refine wpAnyH_ready (rs := [2]) (by kernel_rfl) (by simp) ?_
  refine AllReadyH.cons (o := ⟨some 6, _, _, _, _, _⟩) rfl (fun K hK => ?_) AllReadyH.nil
  go_simp
  refine (H1.out _ HF.out).mono ?_
  rintro e V1 ⟨rfl, f1⟩
  have HF1 := Lib.hid (HF.out.trans f1)
  refine hK.out _ _ ⟨f1.cell hHeld.1 (fun h => h), f1.cell hHeld.2.1 (fun h => h), f1.cell hHeld.2.2.1 (fun h => h), f1.cell hHeld.2.2.2.1 (fun h => h), f1.cell hHeld.2.2.2.2 (fun h => h)⟩ (fun hHeld => ?_)
  clear hK K f1 HF
  refine wpAnyH_take (i := 3) (oi := ⟨some 7, _, _, _, _, _⟩) (v := (.string ((A1) ++ (⟨#[32]⟩)))) rfl (by kernel_rfl) (by kernel_rfl) (by kernel_rfl) (fun _ _ _ h => h) (.inl ⟨by rfl, fun w hw => by dsimp only at hw; go_simp; all_goals omega⟩) hHeld ?_
  simp only [Act.put, List.setIfInBounds_toArray, List.set_cons_zero, List.set_cons_succ]
  refine wpAnyH_ready (rs := [6]) (by kernel_rfl) (by simp) ?_
  refine AllReadyH.cons (o := ⟨some 10, _, _, _, _, _⟩) rfl (fun K hK => ?_) AllReadyH.nil
  go_simp
  refine (H2.out _ HF1.out).mono ?_
  rintro e V2 ⟨rfl, f2⟩
  have HF2 := Lib.hid (HF1.out.trans f2)
  refine hK.out _ _ ⟨f2.cell hHeld.1 (fun h => h), f2.cell hHeld.2.1 (fun h => h), f2.cell hHeld.2.2.1 (fun h => h), f2.cell hHeld.2.2.2.1 (fun h => h), f2.cell hHeld.2.2.2.2 (fun h => h)⟩ (fun hHeld => ?_)
  clear hK K f2 HF1
  refine wpAnyH_take (i := 7) (oi := ⟨some 11, _, _, _, _, _⟩) (v := (.string (((A1) ++ (⟨#[32]⟩)) ++ (A2)))) rfl (by kernel_rfl) (by kernel_rfl) (by kernel_rfl) (fun _ _ _ h => h) (.inl ⟨by rfl, fun w hw => by dsimp only at hw; go_simp; all_goals omega⟩) hHeld ?_
  simp only [Act.put, List.setIfInBounds_toArray, List.set_cons_zero, List.set_cons_succ]
  refine wpAnyH_take (i := 8) (oi := ⟨some 12, _, _, _, _, _⟩) (v := (.string ((((A1) ++ (⟨#[32]⟩)) ++ (A2)) ++ (⟨#[32]⟩)))) rfl (by kernel_rfl) (by kernel_rfl) (by kernel_rfl) (fun _ _ _ h => h) (.inl ⟨by rfl, fun w hw => by dsimp only at hw; go_simp; all_goals omega⟩) hHeld ?_
  simp only [Act.put, List.setIfInBounds_toArray, List.set_cons_zero, List.set_cons_succ]
  refine wpAnyH_ready (rs := [11]) (by kernel_rfl) (by simp) ?_
  refine AllReadyH.cons (o := ⟨some 15, _, _, _, _, _⟩) rfl (fun K hK => ?_) AllReadyH.nil
  go_simp
  refine (H3.out _ HF2.out).mono ?_
  rintro e V3 ⟨rfl, f3⟩
  have HF3 := Lib.hid (HF2.out.trans f3)
  refine hK.out _ _ ⟨f3.cell hHeld.1 (fun h => h), f3.cell hHeld.2.1 (fun h => h), f3.cell hHeld.2.2.1 (fun h => h), f3.cell hHeld.2.2.2.1 (fun h => h), f3.cell hHeld.2.2.2.2 (fun h => h)⟩ (fun hHeld => ?_)
  clear hK K f3 HF2
  refine wpAnyH_take (i := 12) (oi := ⟨some 16, _, _, _, _, _⟩) (v := (.string (((((A1) ++ (⟨#[32]⟩)) ++ (A2)) ++ (⟨#[32]⟩)) ++ (A3)))) rfl (by kernel_rfl) (by kernel_rfl) (by kernel_rfl) (fun _ _ _ h => h) (.inl ⟨by rfl, fun w hw => by dsimp only at hw; go_simp; all_goals omega⟩) hHeld ?_
  simp only [Act.put, List.setIfInBounds_toArray, List.set_cons_zero, List.set_cons_succ]
  refine wpAnyH_take (i := 13) (oi := ⟨some 3, _, _, _, _, _⟩) (v := (.string (((((A1) ++ (⟨#[32]⟩)) ++ (A2)) ++ (⟨#[32]⟩)) ++ (A3)))) rfl (by kernel_rfl) (by kernel_rfl) (by kernel_rfl) (fun _ _ _ h => h) (.inl ⟨by rfl, fun w hw => by dsimp only at hw; go_simp⟩) hHeld ?_
  simp only [Act.put, List.setIfInBounds_toArray, List.set_cons_zero, List.set_cons_succ]
  refine wpAnyH_done (by kernel_rfl) ?_ _
  obtain ⟨a0, a1, a2, a3, a4⟩ := hHeld
  obtain ⟨Y, hY⟩ : ∃ Y, Y = A1 ++ ⟨#[32]⟩ ++ A2 ++ ⟨#[32]⟩ ++ A3 := ⟨_, rfl⟩
  have zY : Y.size ≤ 1000 := by rw [hY]; simp only [ByteArray.size_append, hsp]; omega
  rw [← hY]
  have HY := Lib.hid hY
  clear hY
  go_upto_region 2 with fail
  have HG := Lib.hid HF3.out.drew
  clear HF3
  refine wp_region_held_drew (S := fun w' => w'.cell? ⟨x, 0, none⟩ = some (.int .i64 (l)) ∧ w'.cell? ⟨x, 1, none⟩ = some (.int .i64 (h)) ∧ w'.cell? ⟨x, 2, none⟩ = some (.int .i64 (c)) ∧ w'.cell? ⟨x, 3, none⟩ = some (.string (b)) ∧ w'.cell? ⟨x, 4, none⟩ = some (.string (d))) (by kernel_rfl) ⟨a0, a1, a2, a3, a4⟩ (fun hHeld => ?_)
  refine wpAnyH_take (i := 0) (oi := ⟨some 17, _, _, _, _, _⟩) (v := (.string (Y))) rfl (by kernel_rfl) (by kernel_rfl) (by kernel_rfl) (fun _ _ _ h => h) (.inl ⟨by rfl, fun w hw => by dsimp only at hw; go_simp⟩) hHeld ?_
  simp only [Act.put, List.setIfInBounds_toArray, List.set_cons_zero, List.set_cons_succ]
  refine wpAnyH_take (i := 1) (oi := ⟨some 18, _, _, _, _, _⟩) (v := (.string ((Y) ++ (⟨#[32]⟩)))) rfl (by kernel_rfl) (by kernel_rfl) (by kernel_rfl) (fun _ _ _ h => h) (.inl ⟨by rfl, fun w hw => by dsimp only at hw; go_simp; all_goals omega⟩) hHeld ?_
  simp only [Act.put, List.setIfInBounds_toArray, List.set_cons_zero, List.set_cons_succ]
  refine wpAnyH_take (i := 2) (oi := ⟨some 19, _, _, _, _, _⟩) (v := (.pointer (some ⟨x, 3, none⟩))) rfl (by kernel_rfl) (by kernel_rfl) (by kernel_rfl) (fun _ _ _ h => h) (.inl ⟨by rfl, fun w hw => by dsimp only at hw; go_simp⟩) hHeld ?_
  simp only [Act.put, List.setIfInBounds_toArray, List.set_cons_zero, List.set_cons_succ]
  refine wpAnyH_take (i := 3) (oi := ⟨some 20, _, _, _, _, _⟩) (v := (.string (b))) rfl (by kernel_rfl) (by kernel_rfl) (by kernel_rfl) (fun _ _ _ h => h) (.inl ⟨by rfl, fun w hw => by dsimp only at hw; go_simp⟩) hHeld ?_
  simp only [Act.put, List.setIfInBounds_toArray, List.set_cons_zero, List.set_cons_succ]
  refine wpAnyH_take (i := 7) (oi := ⟨some 24, _, _, _, _, _⟩) (v := (.pointer (some ⟨x, 4, none⟩))) rfl (by kernel_rfl) (by kernel_rfl) (by kernel_rfl) (fun _ _ _ h => h) (.inl ⟨by rfl, fun w hw => by dsimp only at hw; go_simp⟩) hHeld ?_
  simp only [Act.put, List.setIfInBounds_toArray, List.set_cons_zero, List.set_cons_succ]
  refine wpAnyH_take (i := 8) (oi := ⟨some 25, _, _, _, _, _⟩) (v := (.string (d))) rfl (by kernel_rfl) (by kernel_rfl) (by kernel_rfl) (fun _ _ _ h => h) (.inl ⟨by rfl, fun w hw => by dsimp only at hw; go_simp⟩) hHeld ?_
  simp only [Act.put, List.setIfInBounds_toArray, List.set_cons_zero, List.set_cons_succ]
  refine wpAnyH_ready (rs := [4]) (by kernel_rfl) (by simp) ?_
  refine AllReadyH.cons (o := ⟨some 21, _, _, _, _, _⟩) rfl (fun K hK => ?_) AllReadyH.nil
  go_simp
  refine (H4.out _ HG.out).mono ?_
  rintro e Vq1 ⟨rfl, fq1⟩
  have HFq1 := Lib.hid (HG.out.trans fq1)
  refine hK.out _ _ ⟨fq1.cell hHeld.1 (fun h => h), fq1.cell hHeld.2.1 (fun h => h), fq1.cell hHeld.2.2.1 (fun h => h), fq1.cell hHeld.2.2.2.1 (fun h => h), fq1.cell hHeld.2.2.2.2 (fun h => h)⟩ (fun hHeld => ?_)
  clear hK K fq1 HG
  refine wpAnyH_take (i := 5) (oi := ⟨some 22, _, _, _, _, _⟩) (v := (.string (((Y) ++ (⟨#[32]⟩)) ++ (A4)))) rfl (by kernel_rfl) (by kernel_rfl) (by kernel_rfl) (fun _ _ _ h => h) (.inl ⟨by rfl, fun w hw => by dsimp only at hw; go_simp; all_goals omega⟩) hHeld ?_
  simp only [Act.put, List.setIfInBounds_toArray, List.set_cons_zero, List.set_cons_succ]
  refine wpAnyH_take (i := 6) (oi := ⟨some 23, _, _, _, _, _⟩) (v := (.string ((((Y) ++ (⟨#[32]⟩)) ++ (A4)) ++ (⟨#[32]⟩)))) rfl (by kernel_rfl) (by kernel_rfl) (by kernel_rfl) (fun _ _ _ h => h) (.inl ⟨by rfl, fun w hw => by dsimp only at hw; go_simp; all_goals omega⟩) hHeld ?_
  simp only [Act.put, List.setIfInBounds_toArray, List.set_cons_zero, List.set_cons_succ]
  refine wpAnyH_ready (rs := [9]) (by kernel_rfl) (by simp) ?_
  refine AllReadyH.cons (o := ⟨some 26, _, _, _, _, _⟩) rfl (fun K hK => ?_) AllReadyH.nil
  go_simp
  refine (H5.out _ HFq1.out).mono ?_
  rintro e Vq2 ⟨rfl, fq2⟩
  have HFq2 := Lib.hid (HFq1.out.trans fq2)
  refine hK.out _ _ ⟨fq2.cell hHeld.1 (fun h => h), fq2.cell hHeld.2.1 (fun h => h), fq2.cell hHeld.2.2.1 (fun h => h), fq2.cell hHeld.2.2.2.1 (fun h => h), fq2.cell hHeld.2.2.2.2 (fun h => h)⟩ (fun hHeld => ?_)
  clear hK K fq2 HFq1
  refine wpAnyH_take (i := 10) (oi := ⟨some 27, _, _, _, _, _⟩) (v := (.string (((((Y) ++ (⟨#[32]⟩)) ++ (A4)) ++ (⟨#[32]⟩)) ++ (A5)))) rfl (by kernel_rfl) (by kernel_rfl) (by kernel_rfl) (fun _ _ _ h => h) (.inl ⟨by rfl, fun w hw => by dsimp only at hw; go_simp; all_goals omega⟩) hHeld ?_
  simp only [Act.put, List.setIfInBounds_toArray, List.set_cons_zero, List.set_cons_succ]
  refine wpAnyH_take (i := 11) (oi := ⟨some 2, _, _, _, _, _⟩) (v := (.string (((((Y) ++ (⟨#[32]⟩)) ++ (A4)) ++ (⟨#[32]⟩)) ++ (A5)))) rfl (by kernel_rfl) (by kernel_rfl) (by kernel_rfl) (fun _ _ _ h => h) (.inl ⟨by rfl, fun w hw => by dsimp only at hw; go_simp⟩) hHeld ?_
  simp only [Act.put, List.setIfInBounds_toArray, List.set_cons_zero, List.set_cons_succ]
  refine wpAnyH_done (by kernel_rfl) ?_ _
  clear hsp hco z1 z2 z3 z4 z5 zY
  go_wp2_with fail
  go_ret
  exact ⟨by rw [← HY.out]; rfl, HFq2.out⟩

theorem rdig_one (n : Nat) (h : n < 10) (w : World) : Calls Tryd.prog 74 #[.int .i64 n] w fun e w' => e = .returned (strV (Lib.decDigits n)) ∧ ∃ m, w' = w.drewN m := by
  rw [Lib.decDigits_one h]
  have hsl := slice_dig n h
  have hlt : (n : Int) < 10 := by omega
  have hge : (0 : Int) ≤ (n : Int) := by omega
  generalize UInt8.ofNat (48 + n) = c at hsl ⊢
  go_enter Tryd.func74, Tryd.ntmps74
  go_wp2_with fail
  go_ret
  exact ⟨rfl, 0, rfl⟩
theorem dec_size (n : Nat) (hn : n ≤ 9223372036854775807) : (baS (Lib.decDigits n)).size ≤ 21 := by
  have := itoa_size n (by omega) (by omega)
  rw [itoa_nat] at this
  exact this
set_option maxHeartbeats 1000000 in
theorem rdig_step (n : Nat) (h : 10 ≤ n) (hn : n ≤ 9223372036854775807) (ih : ∀ w, Calls Tryd.prog 74 #[.int .i64 (n / 10 : Nat)] w fun e w' => e = .returned (strV (Lib.decDigits (n / 10))) ∧ ∃ m, w' = w.drewN m) (w : World) :
    Calls Tryd.prog 74 #[.int .i64 n] w fun e w' => e = .returned (strV (Lib.decDigits n)) ∧ ∃ m, w' = w.drewN m := by
  have hd : Lib.decDigits n = Lib.decDigits (n / 10) ++ [UInt8.ofNat (48 + n % 10)] := by rw [Lib.decDigits, dif_neg (by omega)]
  have hXs := dec_size (n / 10) (by omega)
  have hsl := slice_dig (n % 10) (by omega)
  rw [show ((n % 10 : Nat) : Int) = (n : Int) % 10 by omega] at hsl
  rw [show ((n / 10 : Nat) : Int) = (n : Int) / 10 by omega] at ih
  have hge : ¬ (n : Int) < 10 := by omega
  have h0 : (0 : Int) ≤ n := by omega
  have h1 : ¬ (n : Int) < 0 := by omega
  rw [show strV (Lib.decDigits (n / 10)) = .string (baS (Lib.decDigits (n / 10))) from rfl] at ih
  obtain ⟨X, hX⟩ : ∃ X : ByteArray, X = baS (Lib.decDigits (n / 10)) := ⟨_, rfl⟩
  rw [← hX] at ih hXs
  have hres : (⟨(Lib.decDigits n).toArray⟩ : ByteArray) = X ++ ⟨#[UInt8.ofNat (48 + n % 10)]⟩ := by
    rw [hX, hd]
    apply WideShapes.bytes_inj
    simp [baS]
  have Hres := Lib.hid hres
  have Ih := Lib.hid ih
  have wq : IntKind.i64.wrap ((n : Int) / 10) = (n : Int) / 10 := IntWalk.i64_in _ (by omega)
  have wr : IntKind.i64.wrap ((n : Int) % 10) = (n : Int) % 10 := IntWalk.i64_in _ (by omega)
  have wp : IntKind.i64.wrap ((n : Int) % 10 + 1) = (n : Int) % 10 + 1 := IntWalk.i64_in _ (by omega)
  have tq : (n : Int).tdiv 10 = (n : Int) / 10 := Int.tdiv_eq_ediv_of_nonneg h0
  have tr : (n : Int).tmod 10 = (n : Int) % 10 := Int.tmod_eq_emod_of_nonneg h0
  clear hd hX hres ih
  generalize UInt8.ofNat (48 + n % 10) = c at hsl Hres
  go_enter Tryd.func74, Tryd.ntmps74
  go_wp2_with fail
  go_quiet ((go_at_call 74; exact Calls.quiet_of (Ih.out _)))
  go_wp2_with fail
  go_ret
  exact ⟨by unfold strV; rw [Hres.out]; rfl, _, rfl⟩
theorem rdig_any (n : Nat) : ∀ (_ : n ≤ 9223372036854775807) (w : World), Calls Tryd.prog 74 #[.int .i64 n] w fun e w' => e = .returned (strV (Lib.decDigits n)) ∧ ∃ m, w' = w.drewN m := by
  induction n using Nat.strongRecOn with
  | _ n ih =>
    intro hn w
    by_cases h : n < 10
    · exact rdig_one n h w
    · exact rdig_step n (by omega) hn (fun w => ih (n / 10) (by omega) (by omega) w) w
theorem frm_drewN (w : World) (m : Nat) : Frm (fun _ => False) w (w.drewN m) := (Frm.refl _ _).drewN m
set_option maxHeartbeats 1000000 in
theorem rdec_any (n : Int) (h0 : -9223372036854775808 ≤ n) (h1 : n ≤ 9223372036854775807) (w : World) : Calls Tryd.prog 74 #[.int .i64 n] w fun e w' => e = .returned (.string (baS (Lib.itoa n))) ∧ Frm (fun _ => False) w w' := by
  by_cases hn : 0 ≤ n
  · obtain ⟨u, rfl⟩ : ∃ u : Nat, n = u := ⟨n.toNat, by omega⟩
    refine (rdig_any u (by omega) w).mono ?_
    rintro e w' ⟨rfl, m, rfl⟩
    exact ⟨by rw [itoa_nat]; rfl, frm_drewN w m⟩
  · obtain ⟨u, rfl⟩ : ∃ u : Nat, n = -(u : Int) := ⟨(-n).toNat, by omega⟩
    have hit : Lib.itoa (-(u : Int)) = 45 :: Lib.decDigits u := by
      unfold Lib.itoa
      rw [if_pos (by omega), show (-(u : Int)).natAbs = u by omega]
    rw [hit]
    have hsl := slice_dig (u % 10) (by omega)
    have tr : Int.tmod (-(u : Int)) 10 = -((u % 10 : Nat) : Int) := by rw [Int.neg_tmod, Int.tmod_eq_emod_of_nonneg (by omega)]; omega
    have tq : Int.tdiv (-(u : Int)) 10 = -((u / 10 : Nat) : Int) := by rw [Int.neg_tdiv, Int.tdiv_eq_ediv_of_nonneg (by omega)]; omega
    have hd : u % 10 < 10 := by omega
    have w1 : IntKind.i64.wrap (-((u % 10 : Nat) : Int)) = -((u % 10 : Nat) : Int) := IntWalk.i64_in _ (by omega)
    have w2 : IntKind.i64.wrap (-((u / 10 : Nat) : Int)) = -((u / 10 : Nat) : Int) := IntWalk.i64_in _ (by omega)
    have w3 : IntKind.i64.wrap ((u % 10 : Nat) : Int) = ((u % 10 : Nat) : Int) := IntWalk.i64_in _ (by omega)
    have w4 : IntKind.i64.wrap ((u / 10 : Nat) : Int) = ((u / 10 : Nat) : Int) := IntWalk.i64_in _ (by omega)
    have w5 : IntKind.i64.wrap (((u % 10 : Nat) : Int) + 1) = ((u % 10 : Nat) : Int) + 1 := IntWalk.i64_in _ (by omega)
    have hneg : ¬ (0 : Int) ≤ -(u : Int) := by omega
    have hlt : -(u : Int) < 0 := by omega
    by_cases hu : u < 10
    · have hres : (45 :: Lib.decDigits u) = [45, UInt8.ofNat (48 + u % 10)] := by rw [Lib.decDigits_one hu, show u % 10 = u by omega]
      rw [hres]
      have hle : ¬ -(u : Int) ≤ -10 := by omega
      clear hres hit h0 h1
      generalize UInt8.ofNat (48 + u % 10) = c at *
      generalize u % 10 = v at *
      generalize u / 10 = q at *
      go_enter Tryd.func74, Tryd.ntmps74
      go_wp2_with fail
      go_ret
      exact ⟨rfl, Frm.refl _ _⟩
    · have hres : (45 :: Lib.decDigits u) = 45 :: (Lib.decDigits (u / 10) ++ [UInt8.ofNat (48 + u % 10)]) := by
        have hd : Lib.decDigits u = Lib.decDigits (u / 10) ++ [UInt8.ofNat (48 + u % 10)] := by rw [Lib.decDigits, dif_neg (by omega)]
        rw [hd]
      have hih := rdig_any (u / 10) (by omega)
      have hXs := dec_size (u / 10) (by omega)
      rw [hres]
      have hle : -(u : Int) ≤ -10 := by omega
      rw [show strV (Lib.decDigits (u / 10)) = .string (baS (Lib.decDigits (u / 10))) from rfl] at hih
      have hfin : baS (45 :: (Lib.decDigits (u / 10) ++ [UInt8.ofNat (48 + u % 10)])) = (⟨#[45]⟩ : ByteArray) ++ baS (Lib.decDigits (u / 10)) ++ ⟨#[UInt8.ofNat (48 + u % 10)]⟩ := by
        apply WideShapes.bytes_inj
        simp [baS]
      rw [hfin]
      clear hres hit hfin h0 h1
      generalize baS (Lib.decDigits (u / 10)) = X at *
      generalize UInt8.ofNat (48 + u % 10) = c at *
      generalize u % 10 = v at *
      generalize u / 10 = q at *
      have hc1 : ¬ 9223372036854775807 < (⟨#[45]⟩ : ByteArray).size + X.size := by show ¬ 9223372036854775807 < 1 + X.size; omega
      have hc2 : ¬ 9223372036854775807 < ((⟨#[45]⟩ : ByteArray) ++ X).size + (⟨#[c]⟩ : ByteArray).size := by rw [ByteArray.size_append]; show ¬ 9223372036854775807 < 1 + X.size + 1; omega
      have Hih := Lib.hid hih
      clear hih
      go_enter Tryd.func74, Tryd.ntmps74
      go_wp2_with fail
      refine (Hih.out _).mono ?_
      rintro e w1 ⟨rfl, m, rfl⟩
      go_wp2_with fail
      go_ret
      exact ⟨rfl, frm_drewN w m⟩
set_option maxRecDepth 100000 in
set_option maxHeartbeats 4000000 in
theorem rtexts_any (a : Shp) (ha : ShOk a) (w : World) : Calls Tryd.prog 24 #[shV a] w fun e w' => e = .returned (.string (txS a)) ∧ Frm (fun _ => False) w w' := by
  have hb := ha.bg
  have hd := ha.en
  have h1 := rdec_any a.lo ha.lo.1 ha.lo.2
  have h2 := rdec_any a.hi ha.hi.1 ha.hi.2
  have h3 := rdec_any a.cl ha.cl.1 ha.cl.2
  have h4 := rdec_any a.bg.size (by omega) (by omega)
  have h5 := rdec_any a.en.size (by omega) (by omega)
  have z1 := itoa_size a.lo ha.lo.1 ha.lo.2
  have z2 := itoa_size a.hi ha.hi.1 ha.hi.2
  have z3 := itoa_size a.cl ha.cl.1 ha.cl.2
  have z4 := itoa_size a.bg.size (by omega) (by omega)
  have z5 := itoa_size a.en.size (by omega) (by omega)
  unfold txS wordS
  generalize baS (Lib.itoa a.lo) = A1 at *
  generalize baS (Lib.itoa a.hi) = A2 at *
  generalize baS (Lib.itoa a.cl) = A3 at *
  generalize baS (Lib.itoa (a.bg.size : Int)) = A4 at *
  generalize baS (Lib.itoa (a.en.size : Int)) = A5 at *
  clear ha
  obtain ⟨l, h, c, b, d⟩ := a
  unfold shV
  simp only at h1 h2 h3 h4 h5 hb hd ⊢
  have hfin : A1 ++ ⟨#[32]⟩ ++ A2 ++ ⟨#[32]⟩ ++ A3 ++ ⟨#[32]⟩ ++ (A4 ++ ⟨#[58]⟩ ++ b) ++ ⟨#[32]⟩ ++ (A5 ++ ⟨#[58]⟩ ++ d) = A1 ++ ⟨#[32]⟩ ++ A2 ++ ⟨#[32]⟩ ++ A3 ++ ⟨#[32]⟩ ++ A4 ++ ⟨#[58]⟩ ++ b ++ ⟨#[32]⟩ ++ A5 ++ ⟨#[58]⟩ ++ d := by
    simp only [ByteArray.append_assoc]
  have Hfin := Lib.hid hfin
  have H1 := Lib.hid h1
  have H2 := Lib.hid h2
  have H3 := Lib.hid h3
  have H4 := Lib.hid h4
  have H5 := Lib.hid h5
  clear h1 h2 h3 h4 h5 hfin
  have hsp : (⟨#[32]⟩ : ByteArray).size = 1 := rfl
  have hco : (⟨#[58]⟩ : ByteArray).size = 1 := rfl
  go_enter Tryd.func24, Tryd.ntmps24
  go_upto_region 1 with fail
  obtain ⟨W1, x, hW, hx, hf, a0, a1, a2, a3, a4⟩ := one_sh w l h c b d
  rw [hW, hx]
  have HF := Lib.hid hf.drew
  clear hW hx hf
  refine wp_region_held_drew (S := fun w' => w'.cell? ⟨x, 0, none⟩ = some (.int .i64 (l)) ∧ w'.cell? ⟨x, 1, none⟩ = some (.int .i64 (h)) ∧ w'.cell? ⟨x, 2, none⟩ = some (.int .i64 (c)) ∧ w'.cell? ⟨x, 3, none⟩ = some (.string (b)) ∧ w'.cell? ⟨x, 4, none⟩ = some (.string (d))) (by kernel_rfl) ⟨a0, a1, a2, a3, a4⟩ (fun hHeld => ?_)
  refine wpAnyH_take (i := 0) (oi := ⟨some 3, _, _, _, _, _⟩) (v := (.pointer (some ⟨x, 0, none⟩))) rfl (by kernel_rfl) (by kernel_rfl) (by kernel_rfl) (fun _ _ _ h => h) (.inl ⟨by rfl, fun w hw => by dsimp only at hw; go_simp⟩) hHeld ?_
  simp only [Act.put, List.setIfInBounds_toArray, List.set_cons_zero, List.set_cons_succ]
  refine wpAnyH_take (i := 1) (oi := ⟨some 4, _, _, _, _, _⟩) (v := (.int .i64 (l))) rfl (by kernel_rfl) (by kernel_rfl) (by kernel_rfl) (fun _ _ _ h => h) (.inl ⟨by rfl, fun w hw => by dsimp only at hw; go_simp⟩) hHeld ?_
  simp only [Act.put, List.setIfInBounds_toArray, List.set_cons_zero, List.set_cons_succ]
  refine wpAnyH_take (i := 4) (oi := ⟨some 7, _, _, _, _, _⟩) (v := (.pointer (some ⟨x, 1, none⟩))) rfl (by kernel_rfl) (by kernel_rfl) (by kernel_rfl) (fun _ _ _ h => h) (.inl ⟨by rfl, fun w hw => by dsimp only at hw; go_simp⟩) hHeld ?_
  simp only [Act.put, List.setIfInBounds_toArray, List.set_cons_zero, List.set_cons_succ]
  refine wpAnyH_take (i := 5) (oi := ⟨some 8, _, _, _, _, _⟩) (v := (.int .i64 (h))) rfl (by kernel_rfl) (by kernel_rfl) (by kernel_rfl) (fun _ _ _ h => h) (.inl ⟨by rfl, fun w hw => by dsimp only at hw; go_simp⟩) hHeld ?_
  simp only [Act.put, List.setIfInBounds_toArray, List.set_cons_zero, List.set_cons_succ]
  refine wpAnyH_take (i := 9) (oi := ⟨some 12, _, _, _, _, _⟩) (v := (.pointer (some ⟨x, 2, none⟩))) rfl (by kernel_rfl) (by kernel_rfl) (by kernel_rfl) (fun _ _ _ h => h) (.inl ⟨by rfl, fun w hw => by dsimp only at hw; go_simp⟩) hHeld ?_
  simp only [Act.put, List.setIfInBounds_toArray, List.set_cons_zero, List.set_cons_succ]
  refine wpAnyH_take (i := 10) (oi := ⟨some 13, _, _, _, _, _⟩) (v := (.int .i64 (c))) rfl (by kernel_rfl) (by kernel_rfl) (by kernel_rfl) (fun _ _ _ h => h) (.inl ⟨by rfl, fun w hw => by dsimp only at hw; go_simp⟩) hHeld ?_
  simp only [Act.put, List.setIfInBounds_toArray, List.set_cons_zero, List.set_cons_succ]
  refine wpAnyH_take (i := 14) (oi := ⟨some 17, _, _, _, _, _⟩) (v := (.pointer (some ⟨x, 3, none⟩))) rfl (by kernel_rfl) (by kernel_rfl) (by kernel_rfl) (fun _ _ _ h => h) (.inl ⟨by rfl, fun w hw => by dsimp only at hw; go_simp⟩) hHeld ?_
  simp only [Act.put, List.setIfInBounds_toArray, List.set_cons_zero, List.set_cons_succ]
  refine wpAnyH_take (i := 15) (oi := ⟨some 18, _, _, _, _, _⟩) (v := (.string (b))) rfl (by kernel_rfl) (by kernel_rfl) (by kernel_rfl) (fun _ _ _ h => h) (.inl ⟨by rfl, fun w hw => by dsimp only at hw; go_simp⟩) hHeld ?_
  simp only [Act.put, List.setIfInBounds_toArray, List.set_cons_zero, List.set_cons_succ]
  refine wpAnyH_take (i := 16) (oi := ⟨some 19, _, _, _, _, _⟩) (v := (.int .i64 (((b).size : Int)))) rfl (by kernel_rfl) (by kernel_rfl) (by kernel_rfl) (fun _ _ _ h => h) (.inl ⟨by rfl, fun w hw => by dsimp only at hw; go_simp⟩) hHeld ?_
  simp only [Act.put, List.setIfInBounds_toArray, List.set_cons_zero, List.set_cons_succ]
  refine wpAnyH_take (i := 20) (oi := ⟨some 23, _, _, _, _, _⟩) (v := (.pointer (some ⟨x, 3, none⟩))) rfl (by kernel_rfl) (by kernel_rfl) (by kernel_rfl) (fun _ _ _ h => h) (.inl ⟨by rfl, fun w hw => by dsimp only at hw; go_simp⟩) hHeld ?_
  simp only [Act.put, List.setIfInBounds_toArray, List.set_cons_zero, List.set_cons_succ]
  refine wpAnyH_take (i := 21) (oi := ⟨some 24, _, _, _, _, _⟩) (v := (.string (b))) rfl (by kernel_rfl) (by kernel_rfl) (by kernel_rfl) (fun _ _ _ h => h) (.inl ⟨by rfl, fun w hw => by dsimp only at hw; go_simp⟩) hHeld ?_
  simp only [Act.put, List.setIfInBounds_toArray, List.set_cons_zero, List.set_cons_succ]
  refine wpAnyH_take (i := 24) (oi := ⟨some 27, _, _, _, _, _⟩) (v := (.pointer (some ⟨x, 4, none⟩))) rfl (by kernel_rfl) (by kernel_rfl) (by kernel_rfl) (fun _ _ _ h => h) (.inl ⟨by rfl, fun w hw => by dsimp only at hw; go_simp⟩) hHeld ?_
  simp only [Act.put, List.setIfInBounds_toArray, List.set_cons_zero, List.set_cons_succ]
  refine wpAnyH_take (i := 25) (oi := ⟨some 28, _, _, _, _, _⟩) (v := (.string (d))) rfl (by kernel_rfl) (by kernel_rfl) (by kernel_rfl) (fun _ _ _ h => h) (.inl ⟨by rfl, fun w hw => by dsimp only at hw; go_simp⟩) hHeld ?_
  simp only [Act.put, List.setIfInBounds_toArray, List.set_cons_zero, List.set_cons_succ]
  refine wpAnyH_take (i := 26) (oi := ⟨some 29, _, _, _, _, _⟩) (v := (.int .i64 (((d).size : Int)))) rfl (by kernel_rfl) (by kernel_rfl) (by kernel_rfl) (fun _ _ _ h => h) (.inl ⟨by rfl, fun w hw => by dsimp only at hw; go_simp⟩) hHeld ?_
  simp only [Act.put, List.setIfInBounds_toArray, List.set_cons_zero, List.set_cons_succ]
  refine wpAnyH_take (i := 30) (oi := ⟨some 33, _, _, _, _, _⟩) (v := (.pointer (some ⟨x, 4, none⟩))) rfl (by kernel_rfl) (by kernel_rfl) (by kernel_rfl) (fun _ _ _ h => h) (.inl ⟨by rfl, fun w hw => by dsimp only at hw; go_simp⟩) hHeld ?_
  simp only [Act.put, List.setIfInBounds_toArray, List.set_cons_zero, List.set_cons_succ]
  refine wpAnyH_take (i := 31) (oi := ⟨some 34, _, _, _, _, _⟩) (v := (.string (d))) rfl (by kernel_rfl) (by kernel_rfl) (by kernel_rfl) (fun _ _ _ h => h) (.inl ⟨by rfl, fun w hw => by dsimp only at hw; go_simp⟩) hHeld ?_
  simp only [Act.put, List.setIfInBounds_toArray, List.set_cons_zero, List.set_cons_succ]
  refine wpAnyH_ready (rs := [2]) (by kernel_rfl) (by simp) ?_
  refine AllReadyH.cons (o := ⟨some 5, _, _, _, _, _⟩) rfl (fun K hK => ?_) AllReadyH.nil
  go_simp
  refine (H1.out _).mono ?_
  rintro e V1 ⟨rfl, f1⟩
  have HF1 := Lib.hid (HF.out.trans f1)
  refine hK.out _ _ ⟨f1.cell hHeld.1 (fun h => h), f1.cell hHeld.2.1 (fun h => h), f1.cell hHeld.2.2.1 (fun h => h), f1.cell hHeld.2.2.2.1 (fun h => h), f1.cell hHeld.2.2.2.2 (fun h => h)⟩ (fun hHeld => ?_)
  clear hK K f1 HF
  refine wpAnyH_take (i := 3) (oi := ⟨some 6, _, _, _, _, _⟩) (v := (.string ((A1) ++ (⟨#[32]⟩)))) rfl (by kernel_rfl) (by kernel_rfl) (by kernel_rfl) (fun _ _ _ h => h) (.inl ⟨by rfl, fun w hw => by dsimp only at hw; go_simp; all_goals omega⟩) hHeld ?_
  simp only [Act.put, List.setIfInBounds_toArray, List.set_cons_zero, List.set_cons_succ]
  refine wpAnyH_ready (rs := [6]) (by kernel_rfl) (by simp) ?_
  refine AllReadyH.cons (o := ⟨some 9, _, _, _, _, _⟩) rfl (fun K hK => ?_) AllReadyH.nil
  go_simp
  refine (H2.out _).mono ?_
  rintro e V2 ⟨rfl, f2⟩
  have HF2 := Lib.hid (HF1.out.trans f2)
  refine hK.out _ _ ⟨f2.cell hHeld.1 (fun h => h), f2.cell hHeld.2.1 (fun h => h), f2.cell hHeld.2.2.1 (fun h => h), f2.cell hHeld.2.2.2.1 (fun h => h), f2.cell hHeld.2.2.2.2 (fun h => h)⟩ (fun hHeld => ?_)
  clear hK K f2 HF1
  refine wpAnyH_take (i := 7) (oi := ⟨some 10, _, _, _, _, _⟩) (v := (.string (((A1) ++ (⟨#[32]⟩)) ++ (A2)))) rfl (by kernel_rfl) (by kernel_rfl) (by kernel_rfl) (fun _ _ _ h => h) (.inl ⟨by rfl, fun w hw => by dsimp only at hw; go_simp; all_goals omega⟩) hHeld ?_
  simp only [Act.put, List.setIfInBounds_toArray, List.set_cons_zero, List.set_cons_succ]
  refine wpAnyH_take (i := 8) (oi := ⟨some 11, _, _, _, _, _⟩) (v := (.string ((((A1) ++ (⟨#[32]⟩)) ++ (A2)) ++ (⟨#[32]⟩)))) rfl (by kernel_rfl) (by kernel_rfl) (by kernel_rfl) (fun _ _ _ h => h) (.inl ⟨by rfl, fun w hw => by dsimp only at hw; go_simp; all_goals omega⟩) hHeld ?_
  simp only [Act.put, List.setIfInBounds_toArray, List.set_cons_zero, List.set_cons_succ]
  refine wpAnyH_ready (rs := [11]) (by kernel_rfl) (by simp) ?_
  refine AllReadyH.cons (o := ⟨some 14, _, _, _, _, _⟩) rfl (fun K hK => ?_) AllReadyH.nil
  go_simp
  refine (H3.out _).mono ?_
  rintro e V3 ⟨rfl, f3⟩
  have HF3 := Lib.hid (HF2.out.trans f3)
  refine hK.out _ _ ⟨f3.cell hHeld.1 (fun h => h), f3.cell hHeld.2.1 (fun h => h), f3.cell hHeld.2.2.1 (fun h => h), f3.cell hHeld.2.2.2.1 (fun h => h), f3.cell hHeld.2.2.2.2 (fun h => h)⟩ (fun hHeld => ?_)
  clear hK K f3 HF2
  refine wpAnyH_take (i := 12) (oi := ⟨some 15, _, _, _, _, _⟩) (v := (.string (((((A1) ++ (⟨#[32]⟩)) ++ (A2)) ++ (⟨#[32]⟩)) ++ (A3)))) rfl (by kernel_rfl) (by kernel_rfl) (by kernel_rfl) (fun _ _ _ h => h) (.inl ⟨by rfl, fun w hw => by dsimp only at hw; go_simp; all_goals omega⟩) hHeld ?_
  simp only [Act.put, List.setIfInBounds_toArray, List.set_cons_zero, List.set_cons_succ]
  refine wpAnyH_take (i := 13) (oi := ⟨some 16, _, _, _, _, _⟩) (v := (.string ((((((A1) ++ (⟨#[32]⟩)) ++ (A2)) ++ (⟨#[32]⟩)) ++ (A3)) ++ (⟨#[32]⟩)))) rfl (by kernel_rfl) (by kernel_rfl) (by kernel_rfl) (fun _ _ _ h => h) (.inl ⟨by rfl, fun w hw => by dsimp only at hw; go_simp; all_goals omega⟩) hHeld ?_
  simp only [Act.put, List.setIfInBounds_toArray, List.set_cons_zero, List.set_cons_succ]
  refine wpAnyH_ready (rs := [17]) (by kernel_rfl) (by simp) ?_
  refine AllReadyH.cons (o := ⟨some 20, _, _, _, _, _⟩) rfl (fun K hK => ?_) AllReadyH.nil
  go_simp
  refine (H4.out _).mono ?_
  rintro e V4 ⟨rfl, f4⟩
  have HF4 := Lib.hid (HF3.out.trans f4)
  refine hK.out _ _ ⟨f4.cell hHeld.1 (fun h => h), f4.cell hHeld.2.1 (fun h => h), f4.cell hHeld.2.2.1 (fun h => h), f4.cell hHeld.2.2.2.1 (fun h => h), f4.cell hHeld.2.2.2.2 (fun h => h)⟩ (fun hHeld => ?_)
  clear hK K f4 HF3
  refine wpAnyH_take (i := 18) (oi := ⟨some 21, _, _, _, _, _⟩) (v := (.string (((((((A1) ++ (⟨#[32]⟩)) ++ (A2)) ++ (⟨#[32]⟩)) ++ (A3)) ++ (⟨#[32]⟩)) ++ (A4)))) rfl (by kernel_rfl) (by kernel_rfl) (by kernel_rfl) (fun _ _ _ h => h) (.inl ⟨by rfl, fun w hw => by dsimp only at hw; go_simp; all_goals omega⟩) hHeld ?_
  simp only [Act.put, List.setIfInBounds_toArray, List.set_cons_zero, List.set_cons_succ]
  refine wpAnyH_take (i := 19) (oi := ⟨some 22, _, _, _, _, _⟩) (v := (.string ((((((((A1) ++ (⟨#[32]⟩)) ++ (A2)) ++ (⟨#[32]⟩)) ++ (A3)) ++ (⟨#[32]⟩)) ++ (A4)) ++ (⟨#[58]⟩)))) rfl (by kernel_rfl) (by kernel_rfl) (by kernel_rfl) (fun _ _ _ h => h) (.inl ⟨by rfl, fun w hw => by dsimp only at hw; go_simp; all_goals omega⟩) hHeld ?_
  simp only [Act.put, List.setIfInBounds_toArray, List.set_cons_zero, List.set_cons_succ]
  refine wpAnyH_take (i := 22) (oi := ⟨some 25, _, _, _, _, _⟩) (v := (.string (((((((((A1) ++ (⟨#[32]⟩)) ++ (A2)) ++ (⟨#[32]⟩)) ++ (A3)) ++ (⟨#[32]⟩)) ++ (A4)) ++ (⟨#[58]⟩)) ++ (b)))) rfl (by kernel_rfl) (by kernel_rfl) (by kernel_rfl) (fun _ _ _ h => h) (.inl ⟨by rfl, fun w hw => by dsimp only at hw; go_simp; all_goals omega⟩) hHeld ?_
  simp only [Act.put, List.setIfInBounds_toArray, List.set_cons_zero, List.set_cons_succ]
  refine wpAnyH_take (i := 23) (oi := ⟨some 26, _, _, _, _, _⟩) (v := (.string ((((((((((A1) ++ (⟨#[32]⟩)) ++ (A2)) ++ (⟨#[32]⟩)) ++ (A3)) ++ (⟨#[32]⟩)) ++ (A4)) ++ (⟨#[58]⟩)) ++ (b)) ++ (⟨#[32]⟩)))) rfl (by kernel_rfl) (by kernel_rfl) (by kernel_rfl) (fun _ _ _ h => h) (.inl ⟨by rfl, fun w hw => by dsimp only at hw; go_simp; all_goals omega⟩) hHeld ?_
  simp only [Act.put, List.setIfInBounds_toArray, List.set_cons_zero, List.set_cons_succ]
  refine wpAnyH_ready (rs := [27]) (by kernel_rfl) (by simp) ?_
  refine AllReadyH.cons (o := ⟨some 30, _, _, _, _, _⟩) rfl (fun K hK => ?_) AllReadyH.nil
  go_simp
  refine (H5.out _).mono ?_
  rintro e V5 ⟨rfl, f5⟩
  have HF5 := Lib.hid (HF4.out.trans f5)
  refine hK.out _ _ ⟨f5.cell hHeld.1 (fun h => h), f5.cell hHeld.2.1 (fun h => h), f5.cell hHeld.2.2.1 (fun h => h), f5.cell hHeld.2.2.2.1 (fun h => h), f5.cell hHeld.2.2.2.2 (fun h => h)⟩ (fun hHeld => ?_)
  clear hK K f5 HF4
  refine wpAnyH_take (i := 28) (oi := ⟨some 31, _, _, _, _, _⟩) (v := (.string (((((((((((A1) ++ (⟨#[32]⟩)) ++ (A2)) ++ (⟨#[32]⟩)) ++ (A3)) ++ (⟨#[32]⟩)) ++ (A4)) ++ (⟨#[58]⟩)) ++ (b)) ++ (⟨#[32]⟩)) ++ (A5)))) rfl (by kernel_rfl) (by kernel_rfl) (by kernel_rfl) (fun _ _ _ h => h) (.inl ⟨by rfl, fun w hw => by dsimp only at hw; go_simp; all_goals omega⟩) hHeld ?_
  simp only [Act.put, List.setIfInBounds_toArray, List.set_cons_zero, List.set_cons_succ]
  refine wpAnyH_take (i := 29) (oi := ⟨some 32, _, _, _, _, _⟩) (v := (.string ((((((((((((A1) ++ (⟨#[32]⟩)) ++ (A2)) ++ (⟨#[32]⟩)) ++ (A3)) ++ (⟨#[32]⟩)) ++ (A4)) ++ (⟨#[58]⟩)) ++ (b)) ++ (⟨#[32]⟩)) ++ (A5)) ++ (⟨#[58]⟩)))) rfl (by kernel_rfl) (by kernel_rfl) (by kernel_rfl) (fun _ _ _ h => h) (.inl ⟨by rfl, fun w hw => by dsimp only at hw; go_simp; all_goals omega⟩) hHeld ?_
  simp only [Act.put, List.setIfInBounds_toArray, List.set_cons_zero, List.set_cons_succ]
  refine wpAnyH_take (i := 32) (oi := ⟨some 35, _, _, _, _, _⟩) (v := (.string (((((((((((((A1) ++ (⟨#[32]⟩)) ++ (A2)) ++ (⟨#[32]⟩)) ++ (A3)) ++ (⟨#[32]⟩)) ++ (A4)) ++ (⟨#[58]⟩)) ++ (b)) ++ (⟨#[32]⟩)) ++ (A5)) ++ (⟨#[58]⟩)) ++ (d)))) rfl (by kernel_rfl) (by kernel_rfl) (by kernel_rfl) (fun _ _ _ h => h) (.inl ⟨by rfl, fun w hw => by dsimp only at hw; go_simp; all_goals omega⟩) hHeld ?_
  simp only [Act.put, List.setIfInBounds_toArray, List.set_cons_zero, List.set_cons_succ]
  refine wpAnyH_take (i := 33) (oi := ⟨some 2, _, _, _, _, _⟩) (v := (.string (((((((((((((A1) ++ (⟨#[32]⟩)) ++ (A2)) ++ (⟨#[32]⟩)) ++ (A3)) ++ (⟨#[32]⟩)) ++ (A4)) ++ (⟨#[58]⟩)) ++ (b)) ++ (⟨#[32]⟩)) ++ (A5)) ++ (⟨#[58]⟩)) ++ (d)))) rfl (by kernel_rfl) (by kernel_rfl) (by kernel_rfl) (fun _ _ _ h => h) (.inl ⟨by rfl, fun w hw => by dsimp only at hw; go_simp⟩) hHeld ?_
  simp only [Act.put, List.setIfInBounds_toArray, List.set_cons_zero, List.set_cons_succ]
  refine wpAnyH_done (by kernel_rfl) ?_ _
  clear hsp hco z1 z2 z3 z4 z5
  go_wp2_with fail
  go_ret
  exact ⟨by rw [Hfin.out]; rfl, HF5.out⟩
end Go.Proofs.YtgnjakaamgeibaaDoor
