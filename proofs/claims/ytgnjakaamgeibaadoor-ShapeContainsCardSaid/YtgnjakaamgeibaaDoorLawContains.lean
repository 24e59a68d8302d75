/-
  ShapeContains: the law returns true. Conditions: the laid table; the case lies in memory; m is an int.
-/
import Derived.Test.YtgnjakaamgeibaaDoorShZ
import Derived.Test.YtgnjakaamgeibaaDoorShS
import Derived.Test.YtgnjakaamgeibaaDoorSh4
namespace Go.Proofs.YtgnjakaamgeibaaDoor
open Go.RowKit Go.Shelf
attribute [local go_sem] Oper.semAt_some

theorem samp_c (p : Shp) (m : Int) (hm : In64 m) (hb : p.bg.size ≤ 12) (hd : p.en.size ≤ 12) (w : World) : Calls Tryd.prog 18 #[shV p, .int .i64 m] w fun e w' => ∃ (X : ByteArray) (ok : Bool), e = .returned (.tuple #[.string X, .bool ok]) ∧ X.size ≤ 200 ∧ Frm (fun _ => False) w w' := by
  refine (samp_any p m hm (by omega) (by omega) w).mono ?_
  rintro e w' ⟨rfl, f⟩
  refine ⟨⟨(sampV p m).1.toArray⟩, _, rfl, ?_, f⟩
  have := sampV_len p m
  show (sampV p m).1.toArray.size ≤ 200
  rw [List.size_toArray]
  exact this
theorem ok_of {a : Shp} (h : ShG a) : ShOk a := ⟨h.lo, h.hi, h.cl, Nat.le_trans h.bg (by decide), Nat.le_trans h.en (by decide)⟩

set_option maxRecDepth 100000 in
set_option maxHeartbeats 8000000 in
theorem law_contains {ao ao1 : Option Addr} {n cap n1 cap1 : Nat} {l h c : Int} {b d t : ByteArray} (m : Int) (w : World) (hT : Tabs w) (hC : CaseAt w ao ao1 n n1 l h c b d t) (hm : In64 m) :
    Calls Tryd.prog 3 #[.agg #[.slice ao n cap, .slice ao1 n1 cap1, .int .i64 l, .int .i64 h, .int .i64 c, .string b, .string d, .string t], .int .i64 m] w fun e w' => e = .returned (.bool true) ∧ Frm (fun _ => False) w w' := by
  have htx := hC.tx
  have HT := Lib.hid hT
  have HC := Lib.hid hC
  clear hT hC
  have e1 : min (t.size : Int) 30 = ((min t.size 30 : Nat) : Int) := by omega
  have e2 : min (t.size : Int) 210 = ((min t.size 210 : Nat) : Int) := by omega
  have z1 : (t.extract 0 (min t.size 30)).size ≤ 30 := by rw [ByteArray.size_extract]; omega
  have z2 : (t.extract 0 (min t.size 210)).size ≤ 210 := by rw [ByteArray.size_extract]; omega
  have hs1 := extc t (min t.size 30) (by omega)
  have hs2 := extc t (min t.size 210) (by omega)
  obtain ⟨X, hX⟩ : ∃ X, X = t.extract 0 (min t.size 30) := ⟨_, rfl⟩
  obtain ⟨Z, hZ⟩ : ∃ Y, Y = t.extract 0 (min t.size 210) := ⟨_, rfl⟩
  rw [← hX] at z1 hs1
  rw [← hZ] at z2 hs2
  generalize min t.size 30 = m1 at *
  generalize min t.size 210 = m2 at *
  clear hX hZ
  have o1 := of_any X (by omega)
  have o2 := rof_any X (by omega)
  have o3 := of_any Z (by omega)
  have o4 := rof_any Z (by omega)
  generalize ofS X = xs at *
  generalize ofS Z = zs at *
  unfold shV at o1 o2 o3 o4
  have O1 := Lib.hid o1
  have O2 := Lib.hid o2
  have O3 := Lib.hid o3
  have O4 := Lib.hid o4
  clear o1 o2 o3 o4
  go_enter Tryd.func3, Tryd.ntmps3
  go_upto_region 1 with fail
  obtain ⟨W1, x, hW, hx, hf, a0, a1, a2, a3, a4, a5, a6, a7⟩ := one_case w ao ao1 n cap n1 cap1 l h c b d t
  rw [hW, hx]
  have HF := Lib.hid hf
  clear hW hx hf
  go_wp2_with fail
  refine (sanity8_any _ (HT.out.frm HF.out)).mono ?_
  rintro e W3 ⟨rfl, f⟩
  have a0 := f.cell a0 (fun h => h)
  have a1 := f.cell a1 (fun h => h)
  have a2 := f.cell a2 (fun h => h)
  have a3 := f.cell a3 (fun h => h)
  have a4 := f.cell a4 (fun h => h)
  have a5 := f.cell a5 (fun h => h)
  have a6 := f.cell a6 (fun h => h)
  have a7 := f.cell a7 (fun h => h)
  have HF := Lib.hid (HF.out.trans f)
  clear f
  go_wp2_with fail
  refine (shapes_any _ (HC.out.still HF.out)).mono ?_
  rintro e W4 ⟨s0, s1, s2, g0, g1, g2, rfl, f⟩
  have a7 := f.cell a7 (fun h => h)
  have HF := Lib.hid (HF.out.trans f)
  clear f a0 a1 a2 a3 a4 a5 a6
  have hr20 := row20_one s0 s1 s2
  obtain ⟨W5, L, hW4, hL, hrow, hfa⟩ := arr_new W4 s0 s1 s2
  have a7 := hfa.cell a7 (fun h => h)
  have HW4 := Lib.hid hW4
  have HL := Lib.hid hL
  clear hW4 hL
  have HA7 := Lib.hid a7
  obtain ⟨S, hS, hG⟩ := sh4_of (L := L) g0 g1 g2 hrow
  have HS := Lib.hid hS
  have HG := Lib.hid hG
  have HF := Lib.hid (HF.out.trans hfa)
  clear hS hG hrow hfa g0 g1 g2 HC
  go_wp2_with (first | (refine wpList_store_row rfl 28 (.tmp 6) (.tmp 14) rfl _ (row20 s0 s1 s2) rfl rfl 28 _ (heap_alloc_new _ _) row_info28 rfl hr20 ?_; rw [HW4.out, HL.out]))
  clear HW4 HL hr20
  go_loopw [8] (fun s wr => ∃ i : Nat, s = .int .i64 i ∧ i ≤ 4 ∧ Frm (fun _ => False) W5 wr) (fun s _ => 4 - (intOf s).toNat)
  case atStart => exact ⟨0, rfl, Nat.zero_le _, Frm.refl _ _⟩
  case round =>
    clear a7
    obtain ⟨i, rfl, hi, hf⟩ := hrel
    by_cases hi4 : i < 4
    · have hi4I : (i : Int) < 4 := by omega
      clear O1 O2 O3 O4 HA7 e1 e2 hs1 hs2
      obtain ⟨p0, p1, p2, p3, p4⟩ := (HS.out.still hf) i hi4
      have hp := HG.out i hi4
      generalize S i = p at *
      have hpb := hp.bg
      have hpe := hp.en
      have hok := ok_of hp
      clear hp
      have hsm := samp_c p m hm hpb hpe
      have hem := emp_any p (by omega) (by omega)
      have hrem := remp_any p (by omega) (by omega)
      have hcx := con_any p X (by omega)
      have hrcx := rcon_any p X (by omega)
      have hcy := fun (Y : ByteArray) (h : Y.size ≤ 200) => con_any p Y (by omega)
      have hrcy := fun (Y : ByteArray) (h : Y.size ≤ 200) => rcon_any p Y (by omega)
      have ht1 := fun (W : World) (f : Frm (fun _ => False) W5 W) => text_any p hok W (HT.out.frm (HF.out.trans f))
      have ht2 := rtexts_any p hok
      generalize txS p = tx at *
      generalize empB p = ep at *
      generalize inS p = ip at *
      unfold shV at hsm hem hrem hcx hrcx hcy hrcy ht1 ht2
      generalize ip X.data.toList = cx at *
      have Hsm := Lib.hid hsm
      have Hem := Lib.hid hem
      have Hrem := Lib.hid hrem
      have Hcx := Lib.hid hcx
      have Hrcx := Lib.hid hrcx
      have Hcy := Lib.hid hcy
      have Hrcy := Lib.hid hrcy
      have Ht1 := Lib.hid ht1
      have Ht2 := Lib.hid ht2
      have Hf := Lib.hid hf
      clear hf hsm hem hrem hcx hrcx hcy hrcy ht1 ht2 hok hpb hpe
      go_wp2_with fail
      refine (Hsm.out _).mono ?_
      rintro e V5 ⟨Y, ok, rfl, hYz, f⟩
      have p0 := f.cell p0 (fun h => h)
      have p1 := f.cell p1 (fun h => h)
      have p2 := f.cell p2 (fun h => h)
      have p3 := f.cell p3 (fun h => h)
      have p4 := f.cell p4 (fun h => h)
      have Hf := Lib.hid (Hf.out.trans f)
      clear f
      have Hcy1 := Lib.hid (Hcy.out Y hYz)
      have Hrcy1 := Lib.hid (Hrcy.out Y hYz)
      clear Hcy Hrcy hYz
      generalize ip Y.data.toList = cy at *
      clear Hsm
      go_upto_region 8 with fail
      have HX := Lib.hid Hf.out.drew
      clear Hf
      refine wp_region_held_drew (S := fun w' => w'.cell? ⟨L, i * 5, none⟩ = some (.int .i64 (p.lo)) ∧ w'.cell? ⟨L, i * 5 + 1, none⟩ = some (.int .i64 (p.hi)) ∧ w'.cell? ⟨L, i * 5 + 2, none⟩ = some (.int .i64 (p.cl)) ∧ w'.cell? ⟨L, i * 5 + 3, none⟩ = some (.string (p.bg)) ∧ w'.cell? ⟨L, i * 5 + 4, none⟩ = some (.string (p.en))) (by kernel_rfl) ⟨p0, p1, p2, p3, p4⟩ (fun hHeld => ?_)
      refine wpAnyH_take (i := 0) (oi := ⟨some 34, _, _, _, _, _⟩) (v := (.int .i64 (i))) rfl (by kernel_rfl) (by kernel_rfl) (by kernel_rfl) (fun _ _ _ h => h) (.inl ⟨by rfl, fun w hw => by dsimp only at hw; go_simp⟩) hHeld ?_
      simp only [Act.put, List.setIfInBounds_toArray, List.set_cons_zero, List.set_cons_succ]
      refine wpAnyH_take (i := 1) (oi := ⟨some 35, _, _, _, _, _⟩) (v := (.pointer (some ⟨L, i * 5, none⟩))) rfl (by kernel_rfl) (by kernel_rfl) (by kernel_rfl) (fun _ _ _ h => h) (.inl ⟨by rfl, fun w hw => by dsimp only at hw; go_simp⟩) hHeld ?_
      simp only [Act.put, List.setIfInBounds_toArray, List.set_cons_zero, List.set_cons_succ]
      refine wpAnyH_take (i := 2) (oi := ⟨some 36, _, _, _, _, _⟩) (v := (.agg #[.int .i64 (p.lo), .int .i64 (p.hi), .int .i64 (p.cl), .string (p.bg), .string (p.en)])) rfl (by kernel_rfl) (by kernel_rfl) (by kernel_rfl) (fun _ _ _ h => h) (.inl ⟨by rfl, fun w hw => by dsimp only at hw; go_simp⟩) hHeld ?_
      simp only [Act.put, List.setIfInBounds_toArray, List.set_cons_zero, List.set_cons_succ]
      refine wpAnyH_take (i := 4) (oi := ⟨some 38, _, _, _, _, _⟩) (v := (.int .i64 (i))) rfl (by kernel_rfl) (by kernel_rfl) (by kernel_rfl) (fun _ _ _ h => h) (.inl ⟨by rfl, fun w hw => by dsimp only at hw; go_simp⟩) hHeld ?_
      simp only [Act.put, List.setIfInBounds_toArray, List.set_cons_zero, List.set_cons_succ]
      refine wpAnyH_take (i := 5) (oi := ⟨some 39, _, _, _, _, _⟩) (v := (.pointer (some ⟨L, i * 5, none⟩))) rfl (by kernel_rfl) (by kernel_rfl) (by kernel_rfl) (fun _ _ _ h => h) (.inl ⟨by rfl, fun w hw => by dsimp only at hw; go_simp⟩) hHeld ?_
      simp only [Act.put, List.setIfInBounds_toArray, List.set_cons_zero, List.set_cons_succ]
      refine wpAnyH_take (i := 6) (oi := ⟨some 40, _, _, _, _, _⟩) (v := (.agg #[.int .i64 (p.lo), .int .i64 (p.hi), .int .i64 (p.cl), .string (p.bg), .string (p.en)])) rfl (by kernel_rfl) (by kernel_rfl) (by kernel_rfl) (fun _ _ _ h => h) (.inl ⟨by rfl, fun w hw => by dsimp only at hw; go_simp⟩) hHeld ?_
      simp only [Act.put, List.setIfInBounds_toArray, List.set_cons_zero, List.set_cons_succ]
      refine wpAnyH_ready (rs := [3]) (by kernel_rfl) (by simp) ?_
      refine AllReadyH.cons (o := ⟨some 37, _, _, _, _, _⟩) rfl (fun K hK => ?_) AllReadyH.nil
      go_simp
      refine (Hem.out _).mono ?_
      rintro e Vz1 ⟨rfl, fz1⟩
      have HFz1 := Lib.hid (HX.out.trans fz1)
      refine hK.out _ _ ⟨fz1.cell hHeld.1 (fun h => h), fz1.cell hHeld.2.1 (fun h => h), fz1.cell hHeld.2.2.1 (fun h => h), fz1.cell hHeld.2.2.2.1 (fun h => h), fz1.cell hHeld.2.2.2.2 (fun h => h)⟩ (fun hHeld => ?_)
      clear hK K fz1 HX
      refine wpAnyH_ready (rs := [7]) (by kernel_rfl) (by simp) ?_
      refine AllReadyH.cons (o := ⟨some 41, _, _, _, _, _⟩) rfl (fun K hK => ?_) AllReadyH.nil
      go_simp
      refine (Hrem.out _).mono ?_
      rintro e Vz2 ⟨rfl, fz2⟩
      have HFz2 := Lib.hid (HFz1.out.trans fz2)
      refine hK.out _ _ ⟨fz2.cell hHeld.1 (fun h => h), fz2.cell hHeld.2.1 (fun h => h), fz2.cell hHeld.2.2.1 (fun h => h), fz2.cell hHeld.2.2.2.1 (fun h => h), fz2.cell hHeld.2.2.2.2 (fun h => h)⟩ (fun hHeld => ?_)
      clear hK K fz2 HFz1
      refine wpAnyH_take (i := 8) (oi := ⟨some 42, _, _, _, _, _⟩) (v := (.bool (false))) rfl (by kernel_rfl) (by kernel_rfl) (by kernel_rfl) (fun _ _ _ h => h) (.inl ⟨by rfl, fun w hw => by dsimp only at hw; go_simp⟩) hHeld ?_
      simp only [Act.put, List.setIfInBounds_toArray, List.set_cons_zero, List.set_cons_succ]
      refine wpAnyH_take (i := 9) (oi := ⟨some 43, _, _, _, _, _⟩) (v := (.bool (false))) rfl (by kernel_rfl) (by kernel_rfl) (by kernel_rfl) (fun _ _ _ h => h) (.inl ⟨by rfl, fun w hw => by dsimp only at hw; go_simp⟩) hHeld ?_
      simp only [Act.put, List.setIfInBounds_toArray, List.set_cons_zero, List.set_cons_succ]
      refine wpAnyH_take (i := 10) (oi := ⟨some 44, _, _, _, _, _⟩) (v := (.int .i64 (i))) rfl (by kernel_rfl) (by kernel_rfl) (by kernel_rfl) (fun _ _ _ h => h) (.inl ⟨by rfl, fun w hw => by dsimp only at hw; go_simp⟩) hHeld ?_
      simp only [Act.put, List.setIfInBounds_toArray, List.set_cons_zero, List.set_cons_succ]
      refine wpAnyH_take (i := 11) (oi := ⟨some 45, _, _, _, _, _⟩) (v := (.pointer (some ⟨L, i * 5, none⟩))) rfl (by kernel_rfl) (by kernel_rfl) (by kernel_rfl) (fun _ _ _ h => h) (.inl ⟨by rfl, fun w hw => by dsimp only at hw; go_simp⟩) hHeld ?_
      simp only [Act.put, List.setIfInBounds_toArray, List.set_cons_zero, List.set_cons_succ]
      refine wpAnyH_take (i := 12) (oi := ⟨some 46, _, _, _, _, _⟩) (v := (.agg #[.int .i64 (p.lo), .int .i64 (p.hi), .int .i64 (p.cl), .string (p.bg), .string (p.en)])) rfl (by kernel_rfl) (by kernel_rfl) (by kernel_rfl) (fun _ _ _ h => h) (.inl ⟨by rfl, fun w hw => by dsimp only at hw; go_simp⟩) hHeld ?_
      simp only [Act.put, List.setIfInBounds_toArray, List.set_cons_zero, List.set_cons_succ]
      refine wpAnyH_take (i := 13) (oi := ⟨some 47, _, _, _, _, _⟩) (v := (.string (X))) rfl (by kernel_rfl) (by kernel_rfl) (by kernel_rfl) (fun _ _ _ h => h) (.inl ⟨by rfl, fun w hw => by dsimp only at hw; go_simp⟩) hHeld ?_
      simp only [Act.put, List.setIfInBounds_toArray, List.set_cons_zero, List.set_cons_succ]
      refine wpAnyH_take (i := 15) (oi := ⟨some 49, _, _, _, _, _⟩) (v := (.int .i64 (i))) rfl (by kernel_rfl) (by kernel_rfl) (by kernel_rfl) (fun _ _ _ h => h) (.inl ⟨by rfl, fun w hw => by dsimp only at hw; go_simp⟩) hHeld ?_
      simp only [Act.put, List.setIfInBounds_toArray, List.set_cons_zero, List.set_cons_succ]
      refine wpAnyH_take (i := 16) (oi := ⟨some 50, _, _, _, _, _⟩) (v := (.pointer (some ⟨L, i * 5, none⟩))) rfl (by kernel_rfl) (by kernel_rfl) (by kernel_rfl) (fun _ _ _ h => h) (.inl ⟨by rfl, fun w hw => by dsimp only at hw; go_simp⟩) hHeld ?_
      simp only [Act.put, List.setIfInBounds_toArray, List.set_cons_zero, List.set_cons_succ]
      refine wpAnyH_take (i := 17) (oi := ⟨some 51, _, _, _, _, _⟩) (v := (.agg #[.int .i64 (p.lo), .int .i64 (p.hi), .int .i64 (p.cl), .string (p.bg), .string (p.en)])) rfl (by kernel_rfl) (by kernel_rfl) (by kernel_rfl) (fun _ _ _ h => h) (.inl ⟨by rfl, fun w hw => by dsimp only at hw; go_simp⟩) hHeld ?_
      simp only [Act.put, List.setIfInBounds_toArray, List.set_cons_zero, List.set_cons_succ]
      refine wpAnyH_take (i := 18) (oi := ⟨some 52, _, _, _, _, _⟩) (v := (.string (X))) rfl (by kernel_rfl) (by kernel_rfl) (by kernel_rfl) (fun _ _ _ h => h) (.inl ⟨by rfl, fun w hw => by dsimp only at hw; go_simp⟩) hHeld ?_
      simp only [Act.put, List.setIfInBounds_toArray, List.set_cons_zero, List.set_cons_succ]
      refine wpAnyH_ready (rs := [14]) (by kernel_rfl) (by simp) ?_
      refine AllReadyH.cons (o := ⟨some 48, _, _, _, _, _⟩) rfl (fun K hK => ?_) AllReadyH.nil
      go_simp
      refine (Hcx.out _).mono ?_
      rintro e Vz3 ⟨rfl, fz3⟩
      have HFz3 := Lib.hid (HFz2.out.trans fz3)
      refine hK.out _ _ ⟨fz3.cell hHeld.1 (fun h => h), fz3.cell hHeld.2.1 (fun h => h), fz3.cell hHeld.2.2.1 (fun h => h), fz3.cell hHeld.2.2.2.1 (fun h => h), fz3.cell hHeld.2.2.2.2 (fun h => h)⟩ (fun hHeld => ?_)
      clear hK K fz3 HFz2
      refine wpAnyH_ready (rs := [19]) (by kernel_rfl) (by simp) ?_
      refine AllReadyH.cons (o := ⟨some 53, _, _, _, _, _⟩) rfl (fun K hK => ?_) AllReadyH.nil
      go_simp
      refine (Hrcx.out _).mono ?_
      rintro e Vz4 ⟨rfl, fz4⟩
      have HFz4 := Lib.hid (HFz3.out.trans fz4)
      refine hK.out _ _ ⟨fz4.cell hHeld.1 (fun h => h), fz4.cell hHeld.2.1 (fun h => h), fz4.cell hHeld.2.2.1 (fun h => h), fz4.cell hHeld.2.2.2.1 (fun h => h), fz4.cell hHeld.2.2.2.2 (fun h => h)⟩ (fun hHeld => ?_)
      clear hK K fz4 HFz3
      refine wpAnyH_take (i := 20) (oi := ⟨some 54, _, _, _, _, _⟩) (v := (.bool (false))) rfl (by kernel_rfl) (by kernel_rfl) (by kernel_rfl) (fun _ _ _ h => h) (.inl ⟨by rfl, fun w hw => by dsimp only at hw; go_simp⟩) hHeld ?_
      simp only [Act.put, List.setIfInBounds_toArray, List.set_cons_zero, List.set_cons_succ]
      refine wpAnyH_take (i := 21) (oi := ⟨some 55, _, _, _, _, _⟩) (v := (.bool (false))) rfl (by kernel_rfl) (by kernel_rfl) (by kernel_rfl) (fun _ _ _ h => h) (.inl ⟨by rfl, fun w hw => by dsimp only at hw; go_simp⟩) hHeld ?_
      simp only [Act.put, List.setIfInBounds_toArray, List.set_cons_zero, List.set_cons_succ]
      refine wpAnyH_take (i := 22) (oi := ⟨some 56, _, _, _, _, _⟩) (v := (.bool (false))) rfl (by kernel_rfl) (by kernel_rfl) (by kernel_rfl) (fun _ _ _ h => h) (.inl ⟨by rfl, fun w hw => by dsimp only at hw; go_simp⟩) hHeld ?_
      simp only [Act.put, List.setIfInBounds_toArray, List.set_cons_zero, List.set_cons_succ]
      refine wpAnyH_take (i := 23) (oi := ⟨some 57, _, _, _, _, _⟩) (v := (.int .i64 (i))) rfl (by kernel_rfl) (by kernel_rfl) (by kernel_rfl) (fun _ _ _ h => h) (.inl ⟨by rfl, fun w hw => by dsimp only at hw; go_simp⟩) hHeld ?_
      simp only [Act.put, List.setIfInBounds_toArray, List.set_cons_zero, List.set_cons_succ]
      refine wpAnyH_take (i := 24) (oi := ⟨some 58, _, _, _, _, _⟩) (v := (.pointer (some ⟨L, i * 5, none⟩))) rfl (by kernel_rfl) (by kernel_rfl) (by kernel_rfl) (fun _ _ _ h => h) (.inl ⟨by rfl, fun w hw => by dsimp only at hw; go_simp⟩) hHeld ?_
      simp only [Act.put, List.setIfInBounds_toArray, List.set_cons_zero, List.set_cons_succ]
      refine wpAnyH_take (i := 25) (oi := ⟨some 59, _, _, _, _, _⟩) (v := (.agg #[.int .i64 (p.lo), .int .i64 (p.hi), .int .i64 (p.cl), .string (p.bg), .string (p.en)])) rfl (by kernel_rfl) (by kernel_rfl) (by kernel_rfl) (fun _ _ _ h => h) (.inl ⟨by rfl, fun w hw => by dsimp only at hw; go_simp⟩) hHeld ?_
      simp only [Act.put, List.setIfInBounds_toArray, List.set_cons_zero, List.set_cons_succ]
      refine wpAnyH_take (i := 26) (oi := ⟨some 60, _, _, _, _, _⟩) (v := (.string (Y))) rfl (by kernel_rfl) (by kernel_rfl) (by kernel_rfl) (fun _ _ _ h => h) (.inl ⟨by rfl, fun w hw => by dsimp only at hw; go_simp⟩) hHeld ?_
      simp only [Act.put, List.setIfInBounds_toArray, List.set_cons_zero, List.set_cons_succ]
      refine wpAnyH_take (i := 28) (oi := ⟨some 62, _, _, _, _, _⟩) (v := (.int .i64 (i))) rfl (by kernel_rfl) (by kernel_rfl) (by kernel_rfl) (fun _ _ _ h => h) (.inl ⟨by rfl, fun w hw => by dsimp only at hw; go_simp⟩) hHeld ?_
      simp only [Act.put, List.setIfInBounds_toArray, List.set_cons_zero, List.set_cons_succ]
      refine wpAnyH_take (i := 29) (oi := ⟨some 63, _, _, _, _, _⟩) (v := (.pointer (some ⟨L, i * 5, none⟩))) rfl (by kernel_rfl) (by kernel_rfl) (by kernel_rfl) (fun _ _ _ h => h) (.inl ⟨by rfl, fun w hw => by dsimp only at hw; go_simp⟩) hHeld ?_
      simp only [Act.put, List.setIfInBounds_toArray, List.set_cons_zero, List.set_cons_succ]
      refine wpAnyH_take (i := 30) (oi := ⟨some 64, _, _, _, _, _⟩) (v := (.agg #[.int .i64 (p.lo), .int .i64 (p.hi), .int .i64 (p.cl), .string (p.bg), .string (p.en)])) rfl (by kernel_rfl) (by kernel_rfl) (by kernel_rfl) (fun _ _ _ h => h) (.inl ⟨by rfl, fun w hw => by dsimp only at hw; go_simp⟩) hHeld ?_
      simp only [Act.put, List.setIfInBounds_toArray, List.set_cons_zero, List.set_cons_succ]
      refine wpAnyH_take (i := 31) (oi := ⟨some 65, _, _, _, _, _⟩) (v := (.string (Y))) rfl (by kernel_rfl) (by kernel_rfl) (by kernel_rfl) (fun _ _ _ h => h) (.inl ⟨by rfl, fun w hw => by dsimp only at hw; go_simp⟩) hHeld ?_
      simp only [Act.put, List.setIfInBounds_toArray, List.set_cons_zero, List.set_cons_succ]
      refine wpAnyH_ready (rs := [27]) (by kernel_rfl) (by simp) ?_
      refine AllReadyH.cons (o := ⟨some 61, _, _, _, _, _⟩) rfl (fun K hK => ?_) AllReadyH.nil
      go_simp
      refine (Hcy1.out _).mono ?_
      rintro e Vz5 ⟨rfl, fz5⟩
      have HFz5 := Lib.hid (HFz4.out.trans fz5)
      refine hK.out _ _ ⟨fz5.cell hHeld.1 (fun h => h), fz5.cell hHeld.2.1 (fun h => h), fz5.cell hHeld.2.2.1 (fun h => h), fz5.cell hHeld.2.2.2.1 (fun h => h), fz5.cell hHeld.2.2.2.2 (fun h => h)⟩ (fun hHeld => ?_)
      clear hK K fz5 HFz4
      refine wpAnyH_ready (rs := [32]) (by kernel_rfl) (by simp) ?_
      refine AllReadyH.cons (o := ⟨some 66, _, _, _, _, _⟩) rfl (fun K hK => ?_) AllReadyH.nil
      go_simp
      refine (Hrcy1.out _).mono ?_
      rintro e Vz6 ⟨rfl, fz6⟩
      have HFz6 := Lib.hid (HFz5.out.trans fz6)
      refine hK.out _ _ ⟨fz6.cell hHeld.1 (fun h => h), fz6.cell hHeld.2.1 (fun h => h), fz6.cell hHeld.2.2.1 (fun h => h), fz6.cell hHeld.2.2.2.1 (fun h => h), fz6.cell hHeld.2.2.2.2 (fun h => h)⟩ (fun hHeld => ?_)
      clear hK K fz6 HFz5
      refine wpAnyH_take (i := 33) (oi := ⟨some 67, _, _, _, _, _⟩) (v := (.bool (false))) rfl (by kernel_rfl) (by kernel_rfl) (by kernel_rfl) (fun _ _ _ h => h) (.inl ⟨by rfl, fun w hw => by dsimp only at hw; go_simp⟩) hHeld ?_
      simp only [Act.put, List.setIfInBounds_toArray, List.set_cons_zero, List.set_cons_succ]
      refine wpAnyH_take (i := 34) (oi := ⟨some 68, _, _, _, _, _⟩) (v := (.bool (false))) rfl (by kernel_rfl) (by kernel_rfl) (by kernel_rfl) (fun _ _ _ h => h) (.inl ⟨by rfl, fun w hw => by dsimp only at hw; go_simp⟩) hHeld ?_
      simp only [Act.put, List.setIfInBounds_toArray, List.set_cons_zero, List.set_cons_succ]
      refine wpAnyH_take (i := 35) (oi := ⟨some 69, _, _, _, _, _⟩) (v := (.bool (false))) rfl (by kernel_rfl) (by kernel_rfl) (by kernel_rfl) (fun _ _ _ h => h) (.inl ⟨by rfl, fun w hw => by dsimp only at hw; go_simp⟩) hHeld ?_
      simp only [Act.put, List.setIfInBounds_toArray, List.set_cons_zero, List.set_cons_succ]
      refine wpAnyH_take (i := 36) (oi := ⟨some 70, _, _, _, _, _⟩) (v := (.int .i64 (i))) rfl (by kernel_rfl) (by kernel_rfl) (by kernel_rfl) (fun _ _ _ h => h) (.inl ⟨by rfl, fun w hw => by dsimp only at hw; go_simp⟩) hHeld ?_
      simp only [Act.put, List.setIfInBounds_toArray, List.set_cons_zero, List.set_cons_succ]
      refine wpAnyH_take (i := 37) (oi := ⟨some 71, _, _, _, _, _⟩) (v := (.pointer (some ⟨L, i * 5, none⟩))) rfl (by kernel_rfl) (by kernel_rfl) (by kernel_rfl) (fun _ _ _ h => h) (.inl ⟨by rfl, fun w hw => by dsimp only at hw; go_simp⟩) hHeld ?_
      simp only [Act.put, List.setIfInBounds_toArray, List.set_cons_zero, List.set_cons_succ]
      refine wpAnyH_take (i := 38) (oi := ⟨some 72, _, _, _, _, _⟩) (v := (.agg #[.int .i64 (p.lo), .int .i64 (p.hi), .int .i64 (p.cl), .string (p.bg), .string (p.en)])) rfl (by kernel_rfl) (by kernel_rfl) (by kernel_rfl) (fun _ _ _ h => h) (.inl ⟨by rfl, fun w hw => by dsimp only at hw; go_simp⟩) hHeld ?_
      simp only [Act.put, List.setIfInBounds_toArray, List.set_cons_zero, List.set_cons_succ]
      refine wpAnyH_take (i := 40) (oi := ⟨some 74, _, _, _, _, _⟩) (v := (.int .i64 (i))) rfl (by kernel_rfl) (by kernel_rfl) (by kernel_rfl) (fun _ _ _ h => h) (.inl ⟨by rfl, fun w hw => by dsimp only at hw; go_simp⟩) hHeld ?_
      simp only [Act.put, List.setIfInBounds_toArray, List.set_cons_zero, List.set_cons_succ]
      refine wpAnyH_take (i := 41) (oi := ⟨some 75, _, _, _, _, _⟩) (v := (.pointer (some ⟨L, i * 5, none⟩))) rfl (by kernel_rfl) (by kernel_rfl) (by kernel_rfl) (fun _ _ _ h => h) (.inl ⟨by rfl, fun w hw => by dsimp only at hw; go_simp⟩) hHeld ?_
      simp only [Act.put, List.setIfInBounds_toArray, List.set_cons_zero, List.set_cons_succ]
      refine wpAnyH_take (i := 42) (oi := ⟨some 76, _, _, _, _, _⟩) (v := (.agg #[.int .i64 (p.lo), .int .i64 (p.hi), .int .i64 (p.cl), .string (p.bg), .string (p.en)])) rfl (by kernel_rfl) (by kernel_rfl) (by kernel_rfl) (fun _ _ _ h => h) (.inl ⟨by rfl, fun w hw => by dsimp only at hw; go_simp⟩) hHeld ?_
      simp only [Act.put, List.setIfInBounds_toArray, List.set_cons_zero, List.set_cons_succ]
      refine wpAnyH_ready (rs := [39]) (by kernel_rfl) (by simp) ?_
      refine AllReadyH.cons (o := ⟨some 73, _, _, _, _, _⟩) rfl (fun K hK => ?_) AllReadyH.nil
      go_simp
      refine (Ht1.out _ HFz6.out).mono ?_
      rintro e Vz7 ⟨rfl, fz7⟩
      have HFz7 := Lib.hid (HFz6.out.trans fz7)
      refine hK.out _ _ ⟨fz7.cell hHeld.1 (fun h => h), fz7.cell hHeld.2.1 (fun h => h), fz7.cell hHeld.2.2.1 (fun h => h), fz7.cell hHeld.2.2.2.1 (fun h => h), fz7.cell hHeld.2.2.2.2 (fun h => h)⟩ (fun hHeld => ?_)
      clear hK K fz7 HFz6
      refine wpAnyH_ready (rs := [43]) (by kernel_rfl) (by simp) ?_
      refine AllReadyH.cons (o := ⟨some 77, _, _, _, _, _⟩) rfl (fun K hK => ?_) AllReadyH.nil
      go_simp
      refine (Ht2.out _).mono ?_
      rintro e Vz8 ⟨rfl, fz8⟩
      have HFz8 := Lib.hid (HFz7.out.trans fz8)
      refine hK.out _ _ ⟨fz8.cell hHeld.1 (fun h => h), fz8.cell hHeld.2.1 (fun h => h), fz8.cell hHeld.2.2.1 (fun h => h), fz8.cell hHeld.2.2.2.1 (fun h => h), fz8.cell hHeld.2.2.2.2 (fun h => h)⟩ (fun hHeld => ?_)
      clear hK K fz8 HFz7
      refine wpAnyH_take (i := 44) (oi := ⟨some 78, _, _, _, _, _⟩) (v := (.bool (false))) rfl (by kernel_rfl) (by kernel_rfl) (by kernel_rfl) (fun _ _ _ h => h) (.inl ⟨by rfl, fun w hw => by dsimp only at hw; go_simp⟩) hHeld ?_
      simp only [Act.put, List.setIfInBounds_toArray, List.set_cons_zero, List.set_cons_succ]
      refine wpAnyH_take (i := 45) (oi := ⟨some 79, _, _, _, _, _⟩) (v := (.bool (false))) rfl (by kernel_rfl) (by kernel_rfl) (by kernel_rfl) (fun _ _ _ h => h) (.inl ⟨by rfl, fun w hw => by dsimp only at hw; go_simp⟩) hHeld ?_
      simp only [Act.put, List.setIfInBounds_toArray, List.set_cons_zero, List.set_cons_succ]
      refine wpAnyH_done (by kernel_rfl) ?_ _
      have Hf := Lib.hid HFz8.out
      clear HFz8 hHeld p0 p1 p2 p3 p4 Hem Hrem Hcx Hrcx Hcy1 Hrcy1 Ht1 Ht2
      go_wp2_with fail
      go_roundw
      case rel => exact ⟨i + 1, by go_num, hi4, Hf.out⟩
      case measure => simp [intOf]; omega
    · have hi4I : ¬ (i : Int) < 4 := by omega
      have a7 := hf.cell HA7.out (fun h => h)
      have Hf := Lib.hid hf
      clear hf HA7 HS HG
      go_wp2_with fail
      refine (O1.out _).mono ?_
      rintro e VO1 ⟨rfl, f⟩
      have Hf := Lib.hid (Hf.out.trans f)
      clear f
      go_wp2_with fail
      refine (O2.out _).mono ?_
      rintro e VO2 ⟨rfl, f⟩
      have Hf := Lib.hid (Hf.out.trans f)
      clear f
      go_wp2_with fail
      refine (O3.out _).mono ?_
      rintro e VO3 ⟨rfl, f⟩
      have Hf := Lib.hid (Hf.out.trans f)
      clear f
      go_wp2_with fail
      refine (O4.out _).mono ?_
      rintro e VO4 ⟨rfl, f⟩
      have Hf := Lib.hid (Hf.out.trans f)
      clear f
      go_wp2_with fail
      go_ret
      exact ⟨rfl, HF.out.trans Hf.out⟩
end Go.Proofs.YtgnjakaamgeibaaDoor
