/-
  PatternFinds: the law returns true. Conditions: the laid tables; the arguments lie in memory.
-/
import Derived.Test.YtgnjakaamgeibaaDoorSmp
import Derived.Test.YtgnjakaamgeibaaDoorSan5
import Derived.Test.YtgnjakaamgeibaaDoorRFn
import Derived.Test.YtgnjakaamgeibaaDoorRPar
import Derived.Deep.CutRange
import Derived.Laws.IdiomStrings
namespace Go.Proofs.YtgnjakaamgeibaaDoor
open Go.RowKit Go.Shelf
attribute [local go_sem] Oper.semAt_some

theorem wpAnyH_more {P : Program} {md : Region.Mode} {ops : Array Oper} {Q : Exit → Act → World → Prop} {S S2 : World → Prop} (h : ∀ w, S2 w → S w) : ∀ (fuel : Nat) (listed : Array Bool) (a : Act) (w : World), wpAnyH P md ops Q S2 fuel listed a w → wpAnyH P md ops Q S fuel listed a w
  | 0, _, _, _, hx => hx
  | fuel + 1, _, _, _, hx => ⟨hx.1, fun i hi => wpOp_mono (fun a' w' h' => ⟨h _ h'.1, wpAnyH_more h fuel _ a' w' h'.2⟩) (hx.2 i hi)⟩
theorem three_at {w : World} {g : Nat} {s0 s1 s2 : ByteArray} (h : w.heap[g]? = some (.cells #[.string s0, .string s1, .string s2] 74 (0, 0))) (h0 : s0.size ≤ 3000) (h1 : s1.size ≤ 3000) (h2 : s2.size ≤ 3000) (i : Nat) (hi : i < 3) : ∃ T : ByteArray, T.size ≤ 3000 ∧ w.cell? ⟨g, i, none⟩ = some (.string T) := by
  match i, hi with
  | 0, _ => exact ⟨s0, h0, by rw [cell_of_row _ _ _ _ _ _ h]; rfl⟩
  | 1, _ => exact ⟨s1, h1, by rw [cell_of_row _ _ _ _ _ _ h]; rfl⟩
  | 2, _ => exact ⟨s2, h2, by rw [cell_of_row _ _ _ _ _ _ h]; rfl⟩
/-- A sample, as a string. -/
theorem sample_f {v : Value} {ps : List Pc} {ao : Option Addr} {n cap : Nat} {l : List Int} (w : World) (hP : Pcs w v ps) (hok : MdOk 5 ps) (hI : IntsAt w ao l) (hn : l.length = n) (hb : n ≤ maxLen) :
    Calls Tryd.prog 40 #[v, .slice ao n cap] w fun e w' => ∃ S : ByteArray, e = .returned (.string S) ∧ S.size ≤ 1000 ∧ Frm (fun _ => False) w w' := by
  refine (sample_any w hP (fun p hp => (hok.pc p hp).1) (fun p hp => by have := (hok.pc p hp).2; omega) hok.len hI hn hb).mono ?_
  rintro e w' ⟨rfl, hl, f⟩
  exact ⟨⟨(smpL ps l).toArray⟩, rfl, by show (smpL ps l).toArray.size ≤ 1000; rw [List.size_toArray]; exact hl, f⟩
theorem conv_at (c : UInt8) (b : Nat) (w : World) (h : w.cell? ⟨b, 0, none⟩ = some (.int .u8 c.toNat)) : (convert 63 9 (.slice (some ⟨b, 0, none⟩) 1 1)).run Tryd.prog w = .ok (.string ⟨#[c]⟩) w :=
  run_convert_bytes_back (P := Tryd.prog) w 63 9 5 ⟨b, 0, none⟩ 1 [c] Tryd.underlying63 Tryd.underlying5 Tryd.underlying9 (fun j hj => by
    obtain rfl : j = 0 := by simpa using hj
    simpa [Addr.add_lit] using h)

set_option maxRecDepth 100000 in
set_option maxHeartbeats 8000000 in
theorem law_finds {ao ao1 : Option Addr} {n cap n1 cap1 : Nat} {l l1 : List Int} (e : Int) (c : UInt8) (q : ByteArray) (w : World) (hT : Tabs w) (hI : IntsAt w ao l) (hn : l.length = n) (hb : n ≤ maxLen) (hI1 : IntsAt w ao1 l1) (hn1 : l1.length = n1) (hb1 : n1 ≤ maxLen) (he : -9223372036854775808 ≤ e ∧ e ≤ 9223372036854775807) (hq : q.size ≤ 9223372036854775807) :
    Calls Tryd.prog 14 #[.slice ao n cap, .slice ao1 n1 cap1, .agg #[.int .i64 e, .int .u8 c.toNat, .string q]] w fun e w' => e = .returned (.bool true) ∧ Frm (fun _ => False) w w' := by
  have HT := Lib.hid hT
  have HI := Lib.hid hI
  have HI1 := Lib.hid hI1
  have Hn := Lib.hid hn
  have Hn1 := Lib.hid hn1
  have hct := cut_any q hq 210 (by decide)
  have hqz : (q.extract 0 (min q.size 210)).size ≤ 210 := by rw [ByteArray.size_extract]; omega
  generalize q.extract 0 (min q.size 210) = E at *
  have hct6 := cut_any q hq 60 (by decide)
  have hqz6 : (q.extract 0 (min q.size 60)).size ≤ 60 := by rw [ByteArray.size_extract]; omega
  generalize q.extract 0 (min q.size 60) = F at *
  have Hct := Lib.hid hct
  have Hct6 := Lib.hid hct6
  clear hT hI hI1 hn hn1 hct hct6
  go_enter Tryd.func14, Tryd.ntmps14
  go_upto_region 1 with fail
  have hM := heap_alloc_new w (.cells #[.int .i64 e, .int .u8 c.toNat, .string q] 60)
  have hF1 := (Frm.refl (fun _ => False) w).alloc (.cells #[.int .i64 e, .int .u8 c.toNat, .string q] 60)
  obtain ⟨W2, hW2⟩ : ∃ W, W = w.alloc (.cells #[.int .i64 e, .int .u8 c.toNat, .string q] 60) := ⟨_, rfl⟩
  obtain ⟨yb, hyb⟩ : ∃ b, b = w.heap.size := ⟨_, rfl⟩
  rw [← hW2, ← hyb] at hM
  rw [← hW2] at hF1
  rw [← hW2, ← hyb]
  have y0 : W2.cell? ⟨yb, 0, none⟩ = some (.int .i64 e) := by rw [cell_of_row _ _ _ _ _ _ hM]; rfl
  have y1 : W2.cell? ⟨yb, 1, none⟩ = some (.int .u8 c.toNat) := by rw [cell_of_row _ _ _ _ _ _ hM]; rfl
  have y2 : W2.cell? ⟨yb, 2, none⟩ = some (.string q) := by rw [cell_of_row _ _ _ _ _ _ hM]; rfl
  have HF := Lib.hid hF1
  clear hW2 hyb hM hF1
  go_wp2_with fail
  refine (sanity5_any _ (HT.out.frm HF.out)).mono ?_
  rintro e w1 ⟨rfl, f⟩
  have y0 := f.cell y0 (fun h => h)
  have y1 := f.cell y1 (fun h => h)
  have y2 := f.cell y2 (fun h => h)
  have HF := Lib.hid (HF.out.trans f)
  clear f
  go_wp2_with fail
  refine (made_any w1 (HI.out.still HF.out) Hn.out hb).mono ?_
  rintro e w2 ⟨v8, rfl, hP8, f⟩
  have y0 := f.cell y0 (fun h => h)
  have y1 := f.cell y1 (fun h => h)
  have y2 := f.cell y2 (fun h => h)
  have hok := made_ok l
  obtain ⟨hs8, hl8⟩ := md_small hok (Nat.le_refl _)
  generalize madeL l = ps at *
  have HF := Lib.hid (HF.out.trans f)
  have HP8 := Lib.hid hP8
  clear f hP8
  have hsm := sample_f (cap := cap1) w2 HP8.out hok (HI1.out.still HF.out) Hn1.out hb1
  have Hsm := Lib.hid hsm
  clear hsm hok
  go_wp2_with fail
  refine Hsm.out.mono ?_
  rintro e1 w3 ⟨S0, rfl, hSz, f⟩
  have y0 := f.cell y0 (fun h => h)
  have y1 := f.cell y1 (fun h => h)
  have y2 := f.cell y2 (fun h => h)
  have HP8 := Lib.hid (HP8.out.still f)
  have HF := Lib.hid (HF.out.trans f)
  clear f Hsm
  have hcs := cut_any S0 (by omega) 60 (by decide)
  have hz : (S0.extract 0 (min S0.size 60)).size ≤ 60 := by rw [ByteArray.size_extract]; omega
  generalize S0.extract 0 (min S0.size 60) = S at *
  have Hcs := Lib.hid hcs
  clear hcs hSz
  go_wp2_with fail
  refine (Hcs.out _).mono ?_
  rintro e2 w4 ⟨rfl, rfl⟩
  clear Hcs
  have hcv := conv_at c
  obtain ⟨C, hC⟩ : ∃ C : ByteArray, C = ⟨#[c]⟩ := ⟨_, rfl⟩
  have hCz : C.size ≤ 1 := by rw [hC]; exact Nat.le_refl _
  rw [← hC] at hcv
  clear hC
  have Hcv := Lib.hid hcv
  clear hcv
  have z1 : (F ++ S).size ≤ 120 := by rw [ByteArray.size_append]; omega
  have z2 : ((F ++ S) ++ C).size ≤ 121 := by rw [ByteArray.size_append]; omega
  have z3 : (((F ++ S) ++ C) ++ S).size ≤ 181 := by rw [ByteArray.size_append]; omega
  go_upto_region 4 with fail
  go_cut [10] from 27 to 99 (fun sx wx => sx = .string (((F ++ S) ++ C) ++ S) ∧ Frm (fun _ => False) w3 wx)
  case first =>
    have HX := Lib.hid (Frm.refl (fun _ => False) w3).drew
    refine wp_region_held_drew (S := fun w' => w'.cell? ⟨yb, 1, none⟩ = some (.int .u8 (c.toNat)) ∧ w'.cell? ⟨yb, 2, none⟩ = some (.string (q))) (by kernel_rfl) ⟨y1, y2⟩ (fun hHeld => ?_)
    generalize w3.drew = Y at *
    refine wpAnyH_take (i := 0) (oi := ⟨some 27, _, _, _, _, _⟩) (v := (.pointer (some ⟨yb, 2, none⟩))) rfl (by kernel_rfl) (by kernel_rfl) (by kernel_rfl) (fun _ _ _ h => h) (.inl ⟨by rfl, fun w hw => by dsimp only at hw; go_simp⟩) hHeld ?_
    simp only [Act.put, List.setIfInBounds_toArray, List.set_cons_zero, List.set_cons_succ]
    refine wpAnyH_take (i := 1) (oi := ⟨some 28, _, _, _, _, _⟩) (v := (.string (q))) rfl (by kernel_rfl) (by kernel_rfl) (by kernel_rfl) (fun _ _ _ h => h) (.inl ⟨by rfl, fun w hw => by dsimp only at hw; go_simp⟩) hHeld ?_
    simp only [Act.put, List.setIfInBounds_toArray, List.set_cons_zero, List.set_cons_succ]
    refine wpAnyH_take (i := 3) (oi := ⟨some 30, _, _, _, _, _⟩) (v := (.string (S))) rfl (by kernel_rfl) (by kernel_rfl) (by kernel_rfl) (fun _ _ _ h => h) (.inl ⟨by rfl, fun w hw => by dsimp only at hw; go_simp⟩) hHeld ?_
    simp only [Act.put, List.setIfInBounds_toArray, List.set_cons_zero, List.set_cons_succ]
    refine wpAnyH_take (i := 5) (oi := ⟨some 32, _, _, _, _, _⟩) (v := (.pointer (some ⟨yb, 1, none⟩))) rfl (by kernel_rfl) (by kernel_rfl) (by kernel_rfl) (fun _ _ _ h => h) (.inl ⟨by rfl, fun w hw => by dsimp only at hw; go_simp⟩) hHeld ?_
    simp only [Act.put, List.setIfInBounds_toArray, List.set_cons_zero, List.set_cons_succ]
    refine wpAnyH_take (i := 6) (oi := ⟨some 33, _, _, _, _, _⟩) (v := (.int .u8 (c.toNat))) rfl (by kernel_rfl) (by kernel_rfl) (by kernel_rfl) (fun _ _ _ h => h) (.inl ⟨by rfl, fun w hw => by dsimp only at hw; go_simp⟩) hHeld ?_
    simp only [Act.put, List.setIfInBounds_toArray, List.set_cons_zero, List.set_cons_succ]
    refine wpAnyH_take (i := 10) (oi := ⟨some 37, _, _, _, _, _⟩) (v := (.string (S))) rfl (by kernel_rfl) (by kernel_rfl) (by kernel_rfl) (fun _ _ _ h => h) (.inl ⟨by rfl, fun w hw => by dsimp only at hw; go_simp⟩) hHeld ?_
    simp only [Act.put, List.setIfInBounds_toArray, List.set_cons_zero, List.set_cons_succ]
    refine wpAnyH_ready (rs := [2, 7]) (by kernel_rfl) (by simp) ?_
    refine AllReadyH.cons (o := ⟨some 29, _, _, _, _, _⟩) rfl (fun K hK => ?_) (AllReadyH.cons (o := ⟨some 34, _, _, _, _, _⟩) rfl (fun K hK => ?_) AllReadyH.nil)
    · skip
      go_simp
      refine (Hct6.out _).mono ?_
      rintro e Vc1 ⟨rfl, rfl⟩
      refine hK.out _ _ hHeld (fun hHeld => ?_)
      clear hK K
      refine wpAnyH_take (i := 4) (oi := ⟨some 31, _, _, _, _, _⟩) (v := (.string ((F) ++ (S)))) rfl (by kernel_rfl) (by kernel_rfl) (by kernel_rfl) (fun _ _ _ h => h) (.inl ⟨by rfl, fun w hw => by dsimp only at hw; go_simp; all_goals omega⟩) hHeld ?_
      simp only [Act.put, List.setIfInBounds_toArray, List.set_cons_zero, List.set_cons_succ]
      refine wpAnyH_ready (rs := [7]) (by kernel_rfl) (by simp) ?_
      refine AllReadyH.cons (o := ⟨some 34, _, _, _, _, _⟩) rfl (fun K hK => ?_) AllReadyH.nil
      go_simp
      have fB := (Frm.refl (fun _ => False) Y).alloc (.cells #[.int .u8 c.toNat] 5)
      have hB := heap_alloc_new Y (.cells #[.int .u8 c.toNat] 5)
      have hBc : (Y.alloc (.cells #[.int .u8 c.toNat] 5)).cell? ⟨Y.heap.size, 0, none⟩ = some (.int .u8 c.toNat) := by rw [cell_of_row _ _ _ _ _ _ hB]; rfl
      obtain ⟨Vc2, hVc2⟩ : ∃ V, V = Y.alloc (.cells #[.int .u8 c.toNat] 5) := ⟨_, rfl⟩
      obtain ⟨bb, hbb⟩ : ∃ b, b = Y.heap.size := ⟨_, rfl⟩
      rw [← hVc2] at fB
      rw [← hVc2, ← hbb] at hBc
      rw [← hVc2, ← hbb]
      clear hVc2 hbb hB
      have HFc2 := Lib.hid (HX.out.trans fB)
      refine hK.out _ _ ⟨fB.cell hHeld.1 (fun h => h), fB.cell hHeld.2 (fun h => h)⟩ (fun hHeld => ?_)
      refine wpAnyH_more (S2 := fun w' => w'.cell? ⟨yb, 1, none⟩ = some (.int .u8 (c.toNat)) ∧ w'.cell? ⟨yb, 2, none⟩ = some (.string (q)) ∧ w'.cell? ⟨bb, 0, none⟩ = some (.int .u8 (c.toNat))) (fun _ h => ⟨h.1, h.2.1⟩) _ _ _ _ ?_
      have hHeld := And.intro hHeld.1 (And.intro hHeld.2 hBc)
      clear hK K fB hBc HX
      refine wpAnyH_take (i := 8) (oi := ⟨some 35, _, _, _, _, _⟩) (v := (.string (C))) rfl (by kernel_rfl) (by kernel_rfl) (by kernel_rfl) (fun _ _ _ h => h) (.inl ⟨by rfl, fun w hw => by dsimp only at hw; have h9 := Hcv.out bb w hw.2.2; go_simp⟩) hHeld ?_
      simp only [Act.put, List.setIfInBounds_toArray, List.set_cons_zero, List.set_cons_succ]
      refine wpAnyH_take (i := 9) (oi := ⟨some 36, _, _, _, _, _⟩) (v := (.string (((F) ++ (S)) ++ (C)))) rfl (by kernel_rfl) (by kernel_rfl) (by kernel_rfl) (fun _ _ _ h => h) (.inl ⟨by rfl, fun w hw => by dsimp only at hw; go_simp; all_goals omega⟩) hHeld ?_
      simp only [Act.put, List.setIfInBounds_toArray, List.set_cons_zero, List.set_cons_succ]
      refine wpAnyH_take (i := 11) (oi := ⟨some 38, _, _, _, _, _⟩) (v := (.string ((((F) ++ (S)) ++ (C)) ++ (S)))) rfl (by kernel_rfl) (by kernel_rfl) (by kernel_rfl) (fun _ _ _ h => h) (.inl ⟨by rfl, fun w hw => by dsimp only at hw; go_simp; all_goals omega⟩) hHeld ?_
      simp only [Act.put, List.setIfInBounds_toArray, List.set_cons_zero, List.set_cons_succ]
      refine wpAnyH_take (i := 12) (oi := ⟨some 10, _, _, _, _, _⟩) (v := (.string ((((F) ++ (S)) ++ (C)) ++ (S)))) rfl (by kernel_rfl) (by kernel_rfl) (by kernel_rfl) (fun _ _ _ h => h) (.inl ⟨by rfl, fun w hw => by dsimp only at hw; go_simp⟩) hHeld ?_
      simp only [Act.put, List.setIfInBounds_toArray, List.set_cons_zero, List.set_cons_succ]
      refine wpAnyH_done (by kernel_rfl) ?_ _
      have hfin := HFc2.out
      clear hHeld
      go_wp2_with fail
      go_meet
      case rel => exact ⟨rfl, hfin⟩
    · skip
      go_simp
      have fB := (Frm.refl (fun _ => False) Y).alloc (.cells #[.int .u8 c.toNat] 5)
      have hB := heap_alloc_new Y (.cells #[.int .u8 c.toNat] 5)
      have hBc : (Y.alloc (.cells #[.int .u8 c.toNat] 5)).cell? ⟨Y.heap.size, 0, none⟩ = some (.int .u8 c.toNat) := by rw [cell_of_row _ _ _ _ _ _ hB]; rfl
      obtain ⟨Vc1, hVc1⟩ : ∃ V, V = Y.alloc (.cells #[.int .u8 c.toNat] 5) := ⟨_, rfl⟩
      obtain ⟨bb, hbb⟩ : ∃ b, b = Y.heap.size := ⟨_, rfl⟩
      rw [← hVc1] at fB
      rw [← hVc1, ← hbb] at hBc
      rw [← hVc1, ← hbb]
      clear hVc1 hbb hB
      have HFc1 := Lib.hid (HX.out.trans fB)
      refine hK.out _ _ ⟨fB.cell hHeld.1 (fun h => h), fB.cell hHeld.2 (fun h => h)⟩ (fun hHeld => ?_)
      refine wpAnyH_more (S2 := fun w' => w'.cell? ⟨yb, 1, none⟩ = some (.int .u8 (c.toNat)) ∧ w'.cell? ⟨yb, 2, none⟩ = some (.string (q)) ∧ w'.cell? ⟨bb, 0, none⟩ = some (.int .u8 (c.toNat))) (fun _ h => ⟨h.1, h.2.1⟩) _ _ _ _ ?_
      have hHeld := And.intro hHeld.1 (And.intro hHeld.2 hBc)
      clear hK K fB hBc HX
      refine wpAnyH_take (i := 8) (oi := ⟨some 35, _, _, _, _, _⟩) (v := (.string (C))) rfl (by kernel_rfl) (by kernel_rfl) (by kernel_rfl) (fun _ _ _ h => h) (.inl ⟨by rfl, fun w hw => by dsimp only at hw; have h9 := Hcv.out bb w hw.2.2; go_simp⟩) hHeld ?_
      simp only [Act.put, List.setIfInBounds_toArray, List.set_cons_zero, List.set_cons_succ]
      refine wpAnyH_ready (rs := [2]) (by kernel_rfl) (by simp) ?_
      refine AllReadyH.cons (o := ⟨some 29, _, _, _, _, _⟩) rfl (fun K hK => ?_) AllReadyH.nil
      go_simp
      refine (Hct6.out _).mono ?_
      rintro e Vc2 ⟨rfl, rfl⟩
      refine hK.out _ _ hHeld (fun hHeld => ?_)
      clear hK K
      refine wpAnyH_take (i := 4) (oi := ⟨some 31, _, _, _, _, _⟩) (v := (.string ((F) ++ (S)))) rfl (by kernel_rfl) (by kernel_rfl) (by kernel_rfl) (fun _ _ _ h => h) (.inl ⟨by rfl, fun w hw => by dsimp only at hw; go_simp; all_goals omega⟩) hHeld ?_
      simp only [Act.put, List.setIfInBounds_toArray, List.set_cons_zero, List.set_cons_succ]
      refine wpAnyH_take (i := 9) (oi := ⟨some 36, _, _, _, _, _⟩) (v := (.string (((F) ++ (S)) ++ (C)))) rfl (by kernel_rfl) (by kernel_rfl) (by kernel_rfl) (fun _ _ _ h => h) (.inl ⟨by rfl, fun w hw => by dsimp only at hw; go_simp; all_goals omega⟩) hHeld ?_
      simp only [Act.put, List.setIfInBounds_toArray, List.set_cons_zero, List.set_cons_succ]
      refine wpAnyH_take (i := 11) (oi := ⟨some 38, _, _, _, _, _⟩) (v := (.string ((((F) ++ (S)) ++ (C)) ++ (S)))) rfl (by kernel_rfl) (by kernel_rfl) (by kernel_rfl) (fun _ _ _ h => h) (.inl ⟨by rfl, fun w hw => by dsimp only at hw; go_simp; all_goals omega⟩) hHeld ?_
      simp only [Act.put, List.setIfInBounds_toArray, List.set_cons_zero, List.set_cons_succ]
      refine wpAnyH_take (i := 12) (oi := ⟨some 10, _, _, _, _, _⟩) (v := (.string ((((F) ++ (S)) ++ (C)) ++ (S)))) rfl (by kernel_rfl) (by kernel_rfl) (by kernel_rfl) (fun _ _ _ h => h) (.inl ⟨by rfl, fun w hw => by dsimp only at hw; go_simp⟩) hHeld ?_
      simp only [Act.put, List.setIfInBounds_toArray, List.set_cons_zero, List.set_cons_succ]
      refine wpAnyH_done (by kernel_rfl) ?_ _
      have hfin := HFc1.out
      clear hHeld
      go_wp2_with fail
      go_meet
      case rel => exact ⟨rfl, hfin⟩
  case rest =>
    obtain ⟨rfl, hf⟩ := hcut
    have y0 := hf.cell y0 (fun h => h)
    have y2 := hf.cell y2 (fun h => h)
    generalize ((F ++ S) ++ C) ++ S = X at *
    have HP8 := Lib.hid (HP8.out.still hf)
    have HF := Lib.hid (HF.out.trans hf)
    clear hf Hct6 Hcv y1
    go_wp2_with fail
    refine (Hct.out _).mono ?_
    rintro e2 w5 ⟨rfl, rfl⟩
    clear Hct
    obtain ⟨k, hk, hk8⟩ : ∃ k : Nat, e % 8 = k ∧ k < 8 := ⟨(e % 8).toNat, by have := Int.emod_nonneg e (show (8 : Int) ≠ 0 by omega); omega, by have := Int.emod_lt_of_pos e (show (0 : Int) < 8 by omega); omega⟩
    have hmd := fun (W : World) => mod_any e 8 W (by omega) (by omega) he.1 he.2
    rw [hk] at hmd
    have Hmd := Lib.hid hmd
    clear hmd hk he
    have hR := heap_alloc_new wc (.cells #[.string X, .string S, .string E] 74)
    have hfr := (Frm.refl (fun _ => False) wc).alloc (.cells #[.string X, .string S, .string E] 74)
    have y0 := hfr.cell y0 (fun h => h)
    go_upto_region 6 with fail
    obtain ⟨V, hV⟩ : ∃ V, V = wc.alloc (.cells #[.string X, .string S, .string E] 74) := ⟨_, rfl⟩
    obtain ⟨mb, hmb⟩ : ∃ b, b = wc.heap.size := ⟨_, rfl⟩
    rw [← hV, ← hmb] at hR
    rw [← hV] at hfr y0
    rw [← hV, ← hmb]
    clear hV hmb
    have h3 := three_at hR (by omega) (by omega) (by omega)
    have H3 := Lib.hid h3
    have HP8 := Lib.hid (HP8.out.still hfr)
    have HF := Lib.hid (HF.out.trans hfr)
    clear hR h3 hfr y2
    go_wp2_with fail
    refine (Hmd.out _).mono ?_
    rintro e2 w5 ⟨rfl, rfl⟩
    clear Hmd y0
    go_wp2_with fail
    go_loopw [13] (fun s wr => ∃ i : Nat, s = .int .i64 i ∧ i ≤ 3 ∧ Frm (fun _ => False) V wr) (fun s _ => 3 - (intOf s).toNat)
    case atStart => exact ⟨0, rfl, Nat.zero_le _, Frm.refl _ _⟩
    case round =>
      obtain ⟨i, rfl, hi, hf⟩ := hrel
      by_cases hi3 : i < 3
      · have hi3I : (i : Int) < 3 := by omega
        obtain ⟨T, hTz, t0⟩ := H3.out i hi3
        have t0 := hf.cell t0 (fun h => h)
        have hm1 := fun (W : World) (f : Frm (fun _ => False) V W) => find_any W T ((k : Int) - 1) (by omega) (HP8.out.still f) hs8 hl8 (HT.out.frm (HF.out.trans f))
        have hm2 := fun (W : World) (f : Frm (fun _ => False) V W) => rfind_any W T ((k : Int) - 1) (by omega) (HP8.out.still f) hs8 hl8
        have hm3 := fun (W : World) (f : Frm (fun _ => False) V W) => fcount_any W T (by omega) (HP8.out.still f) hs8 hl8 (HT.out.frm (HF.out.trans f))
        have hm4 := fun (W : World) (f : Frm (fun _ => False) V W) => rcnt_any W T (by omega) (HP8.out.still f) hs8 hl8
        generalize findO (findsL ps T.data.toList) ((k : Int) - 1) = b1 at *
        generalize (findsL ps T.data.toList).length = b2 at *
        obtain ⟨r1, r2, r3⟩ := b1
        have Hm1 := Lib.hid hm1
        have Hm2 := Lib.hid hm2
        have Hm3 := Lib.hid hm3
        have Hm4 := Lib.hid hm4
        clear hm1 hm2 hm3 hm4
        go_wp2_with fail
        refine (Hm1.out _ hf).mono ?_
        rintro e3 w5 ⟨rfl, f⟩
        have t0 := f.cell t0 (fun h => h)
        have hf := hf.trans f
        clear f
        go_wp2_with fail
        refine (Hm2.out _ hf).mono ?_
        rintro e3 w6 ⟨rfl, f⟩
        have t0 := f.cell t0 (fun h => h)
        have hf := hf.trans f
        clear f Hm1 Hm2
        go_upto_region 12 with fail
        have HX := Lib.hid hf.drew
        clear hf
        refine wp_region_held_drew (S := fun w' => w'.cell? ⟨mb, i, none⟩ = some (.string (T))) (by kernel_rfl) t0 (fun hHeld => ?_)
        refine wpAnyH_take (i := 0) (oi := ⟨some 73, _, _, _, _, _⟩) (v := (.int .i64 (r1))) rfl (by kernel_rfl) (by kernel_rfl) (by kernel_rfl) (fun _ _ _ h => h) (.inl ⟨by rfl, fun w hw => by dsimp only at hw; go_simp⟩) hHeld ?_
        simp only [Act.put, List.setIfInBounds_toArray, List.set_cons_zero, List.set_cons_succ]
        refine wpAnyH_take (i := 1) (oi := ⟨some 74, _, _, _, _, _⟩) (v := (.int .i64 (r1))) rfl (by kernel_rfl) (by kernel_rfl) (by kernel_rfl) (fun _ _ _ h => h) (.inl ⟨by rfl, fun w hw => by dsimp only at hw; go_simp⟩) hHeld ?_
        simp only [Act.put, List.setIfInBounds_toArray, List.set_cons_zero, List.set_cons_succ]
        refine wpAnyH_take (i := 2) (oi := ⟨some 75, _, _, _, _, _⟩) (v := (.bool (false))) rfl (by kernel_rfl) (by kernel_rfl) (by kernel_rfl) (fun _ _ _ h => h) (.inl ⟨by rfl, fun w hw => by dsimp only at hw; go_simp⟩) hHeld ?_
        simp only [Act.put, List.setIfInBounds_toArray, List.set_cons_zero, List.set_cons_succ]
        refine wpAnyH_take (i := 3) (oi := ⟨some 76, _, _, _, _, _⟩) (v := (.bool (false))) rfl (by kernel_rfl) (by kernel_rfl) (by kernel_rfl) (fun _ _ _ h => h) (.inl ⟨by rfl, fun w hw => by dsimp only at hw; go_simp⟩) hHeld ?_
        simp only [Act.put, List.setIfInBounds_toArray, List.set_cons_zero, List.set_cons_succ]
        refine wpAnyH_take (i := 4) (oi := ⟨some 77, _, _, _, _, _⟩) (v := (.int .i64 (r2))) rfl (by kernel_rfl) (by kernel_rfl) (by kernel_rfl) (fun _ _ _ h => h) (.inl ⟨by rfl, fun w hw => by dsimp only at hw; go_simp⟩) hHeld ?_
        simp only [Act.put, List.setIfInBounds_toArray, List.set_cons_zero, List.set_cons_succ]
        refine wpAnyH_take (i := 5) (oi := ⟨some 78, _, _, _, _, _⟩) (v := (.int .i64 (r2))) rfl (by kernel_rfl) (by kernel_rfl) (by kernel_rfl) (fun _ _ _ h => h) (.inl ⟨by rfl, fun w hw => by dsimp only at hw; go_simp⟩) hHeld ?_
        simp only [Act.put, List.setIfInBounds_toArray, List.set_cons_zero, List.set_cons_succ]
        refine wpAnyH_take (i := 6) (oi := ⟨some 79, _, _, _, _, _⟩) (v := (.bool (false))) rfl (by kernel_rfl) (by kernel_rfl) (by kernel_rfl) (fun _ _ _ h => h) (.inl ⟨by rfl, fun w hw => by dsimp only at hw; go_simp⟩) hHeld ?_
        simp only [Act.put, List.setIfInBounds_toArray, List.set_cons_zero, List.set_cons_succ]
        refine wpAnyH_take (i := 7) (oi := ⟨some 80, _, _, _, _, _⟩) (v := (.bool (false))) rfl (by kernel_rfl) (by kernel_rfl) (by kernel_rfl) (fun _ _ _ h => h) (.inl ⟨by rfl, fun w hw => by dsimp only at hw; go_simp⟩) hHeld ?_
        simp only [Act.put, List.setIfInBounds_toArray, List.set_cons_zero, List.set_cons_succ]
        refine wpAnyH_take (i := 8) (oi := ⟨some 81, _, _, _, _, _⟩) (v := (.bool (false))) rfl (by kernel_rfl) (by kernel_rfl) (by kernel_rfl) (fun _ _ _ h => h) (.inl ⟨by rfl, fun w hw => by dsimp only at hw; go_simp⟩) hHeld ?_
        simp only [Act.put, List.setIfInBounds_toArray, List.set_cons_zero, List.set_cons_succ]
        refine wpAnyH_take (i := 9) (oi := ⟨some 82, _, _, _, _, _⟩) (v := (.bool (r3))) rfl (by kernel_rfl) (by kernel_rfl) (by kernel_rfl) (fun _ _ _ h => h) (.inl ⟨by rfl, fun w hw => by dsimp only at hw; go_simp⟩) hHeld ?_
        simp only [Act.put, List.setIfInBounds_toArray, List.set_cons_zero, List.set_cons_succ]
        refine wpAnyH_take (i := 10) (oi := ⟨some 83, _, _, _, _, _⟩) (v := (.bool (r3))) rfl (by kernel_rfl) (by kernel_rfl) (by kernel_rfl) (fun _ _ _ h => h) (.inl ⟨by rfl, fun w hw => by dsimp only at hw; go_simp⟩) hHeld ?_
        simp only [Act.put, List.setIfInBounds_toArray, List.set_cons_zero, List.set_cons_succ]
        refine wpAnyH_take (i := 11) (oi := ⟨some 84, _, _, _, _, _⟩) (v := (.bool (false))) rfl (by kernel_rfl) (by kernel_rfl) (by kernel_rfl) (fun _ _ _ h => h) (.inl ⟨by rfl, fun w hw => by dsimp only at hw; go_simp⟩) hHeld ?_
        simp only [Act.put, List.setIfInBounds_toArray, List.set_cons_zero, List.set_cons_succ]
        refine wpAnyH_take (i := 12) (oi := ⟨some 85, _, _, _, _, _⟩) (v := (.bool (false))) rfl (by kernel_rfl) (by kernel_rfl) (by kernel_rfl) (fun _ _ _ h => h) (.inl ⟨by rfl, fun w hw => by dsimp only at hw; go_simp⟩) hHeld ?_
        simp only [Act.put, List.setIfInBounds_toArray, List.set_cons_zero, List.set_cons_succ]
        refine wpAnyH_take (i := 13) (oi := ⟨some 86, _, _, _, _, _⟩) (v := (.bool (false))) rfl (by kernel_rfl) (by kernel_rfl) (by kernel_rfl) (fun _ _ _ h => h) (.inl ⟨by rfl, fun w hw => by dsimp only at hw; go_simp⟩) hHeld ?_
        simp only [Act.put, List.setIfInBounds_toArray, List.set_cons_zero, List.set_cons_succ]
        refine wpAnyH_take (i := 14) (oi := ⟨some 87, _, _, _, _, _⟩) (v := (v8)) rfl (by kernel_rfl) (by kernel_rfl) (by kernel_rfl) (fun _ _ _ h => h) (.inl ⟨by rfl, fun w hw => by dsimp only at hw; go_simp⟩) hHeld ?_
        simp only [Act.put, List.setIfInBounds_toArray, List.set_cons_zero, List.set_cons_succ]
        refine wpAnyH_take (i := 15) (oi := ⟨some 88, _, _, _, _, _⟩) (v := (.int .i64 (i))) rfl (by kernel_rfl) (by kernel_rfl) (by kernel_rfl) (fun _ _ _ h => h) (.inl ⟨by rfl, fun w hw => by dsimp only at hw; go_simp⟩) hHeld ?_
        simp only [Act.put, List.setIfInBounds_toArray, List.set_cons_zero, List.set_cons_succ]
        refine wpAnyH_take (i := 16) (oi := ⟨some 89, _, _, _, _, _⟩) (v := (.pointer (some ⟨mb, i, none⟩))) rfl (by kernel_rfl) (by kernel_rfl) (by kernel_rfl) (fun _ _ _ h => h) (.inl ⟨by rfl, fun w hw => by dsimp only at hw; go_simp⟩) hHeld ?_
        simp only [Act.put, List.setIfInBounds_toArray, List.set_cons_zero, List.set_cons_succ]
        refine wpAnyH_take (i := 17) (oi := ⟨some 90, _, _, _, _, _⟩) (v := (.string (T))) rfl (by kernel_rfl) (by kernel_rfl) (by kernel_rfl) (fun _ _ _ h => h) (.inl ⟨by rfl, fun w hw => by dsimp only at hw; go_simp⟩) hHeld ?_
        simp only [Act.put, List.setIfInBounds_toArray, List.set_cons_zero, List.set_cons_succ]
        refine wpAnyH_take (i := 19) (oi := ⟨some 92, _, _, _, _, _⟩) (v := (v8)) rfl (by kernel_rfl) (by kernel_rfl) (by kernel_rfl) (fun _ _ _ h => h) (.inl ⟨by rfl, fun w hw => by dsimp only at hw; go_simp⟩) hHeld ?_
        simp only [Act.put, List.setIfInBounds_toArray, List.set_cons_zero, List.set_cons_succ]
        refine wpAnyH_take (i := 20) (oi := ⟨some 93, _, _, _, _, _⟩) (v := (.int .i64 (i))) rfl (by kernel_rfl) (by kernel_rfl) (by kernel_rfl) (fun _ _ _ h => h) (.inl ⟨by rfl, fun w hw => by dsimp only at hw; go_simp⟩) hHeld ?_
        simp only [Act.put, List.setIfInBounds_toArray, List.set_cons_zero, List.set_cons_succ]
        refine wpAnyH_take (i := 21) (oi := ⟨some 94, _, _, _, _, _⟩) (v := (.pointer (some ⟨mb, i, none⟩))) rfl (by kernel_rfl) (by kernel_rfl) (by kernel_rfl) (fun _ _ _ h => h) (.inl ⟨by rfl, fun w hw => by dsimp only at hw; go_simp⟩) hHeld ?_
        simp only [Act.put, List.setIfInBounds_toArray, List.set_cons_zero, List.set_cons_succ]
        refine wpAnyH_take (i := 22) (oi := ⟨some 95, _, _, _, _, _⟩) (v := (.string (T))) rfl (by kernel_rfl) (by kernel_rfl) (by kernel_rfl) (fun _ _ _ h => h) (.inl ⟨by rfl, fun w hw => by dsimp only at hw; go_simp⟩) hHeld ?_
        simp only [Act.put, List.setIfInBounds_toArray, List.set_cons_zero, List.set_cons_succ]
        refine wpAnyH_ready (rs := [18]) (by kernel_rfl) (by simp) ?_
        refine AllReadyH.cons (o := ⟨some 91, _, _, _, _, _⟩) rfl (fun K hK => ?_) AllReadyH.nil
        go_simp
        refine (Hm3.out _ HX.out).mono ?_
        rintro e Vz1 ⟨rfl, fz1⟩
        have HFz1 := Lib.hid (HX.out.trans fz1)
        refine hK.out _ _ (fz1.cell hHeld (fun h => h)) (fun hHeld => ?_)
        clear hK K fz1 HX
        refine wpAnyH_ready (rs := [23]) (by kernel_rfl) (by simp) ?_
        refine AllReadyH.cons (o := ⟨some 96, _, _, _, _, _⟩) rfl (fun K hK => ?_) AllReadyH.nil
        go_simp
        refine (Hm4.out _ HFz1.out).mono ?_
        rintro e Vz2 ⟨rfl, fz2⟩
        have HFz2 := Lib.hid (HFz1.out.trans fz2)
        refine hK.out _ _ (fz2.cell hHeld (fun h => h)) (fun hHeld => ?_)
        clear hK K fz2 HFz1
        refine wpAnyH_take (i := 24) (oi := ⟨some 97, _, _, _, _, _⟩) (v := (.bool (false))) rfl (by kernel_rfl) (by kernel_rfl) (by kernel_rfl) (fun _ _ _ h => h) (.inl ⟨by rfl, fun w hw => by dsimp only at hw; go_simp⟩) hHeld ?_
        simp only [Act.put, List.setIfInBounds_toArray, List.set_cons_zero, List.set_cons_succ]
        refine wpAnyH_take (i := 25) (oi := ⟨some 98, _, _, _, _, _⟩) (v := (.bool (false))) rfl (by kernel_rfl) (by kernel_rfl) (by kernel_rfl) (fun _ _ _ h => h) (.inl ⟨by rfl, fun w hw => by dsimp only at hw; go_simp⟩) hHeld ?_
        simp only [Act.put, List.setIfInBounds_toArray, List.set_cons_zero, List.set_cons_succ]
        refine wpAnyH_done (by kernel_rfl) ?_ _
        have Hf := Lib.hid HFz2.out
        clear HFz2 hHeld t0 Hm3 Hm4
        go_wp2_with fail
        go_roundw
        case rel => exact ⟨i + 1, by go_num, hi3, Hf.out⟩
        case measure => simp [intOf]; omega
      · have hi3I : ¬ (i : Int) < 3 := by omega
        go_wp2_with fail
        go_ret
        exact ⟨rfl, HF.out.trans hf⟩
end Go.Proofs.YtgnjakaamgeibaaDoor
