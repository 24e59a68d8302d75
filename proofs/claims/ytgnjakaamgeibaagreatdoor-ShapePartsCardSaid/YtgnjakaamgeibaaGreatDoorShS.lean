/-
  The examples of the chapter: sanity of concordlaw08 returns true. Conditions: the laid table.
-/
import Derived.Test.YtgnjakaamgeibaaGreatDoorShN
import Derived.Test.YtgnjakaamgeibaaGreatDoorShT
import Derived.Test.YtgnjakaamgeibaaGreatDoorShK
import Derived.Test.YtgnjakaamgeibaaGreatDoorRdr2
import Derived.Test.YtgnjakaamgeibaaGreatDoorRPar
import Derived.Test.YtgnjakaamgeibaaGreatDoorRgt
import Derived.Test.YtgnjakaamgeibaaGreatDoorRange
import Derived.Test.YtgnjakaamgeibaaGreatDoorOps
import Derived.Test.YtgnjakaamgeibaaGreatDoorBrg
import Derived.Test.YtgnjakaamgeibaaGreatDoorRangeA
import Derived.Test.YtgnjakaamgeibaaGreatDoorFnd
namespace Go.Proofs.YtgnjakaamgeibaaGreatDoor
open Go.RowKit Go.Shelf
attribute [local go_sem] Oper.semAt_some
theorem sn1 : ofS ⟨#[97, 49]⟩ = ⟨2, 2, 10, ⟨#[97, 49]⟩, ⟨#[97, 49]⟩⟩ := by kernel_rfl
theorem sn2 : ofS ⟨#[97, 98]⟩ = ⟨2, 2, 8, ⟨#[97, 98]⟩, ⟨#[97, 98]⟩⟩ := by kernel_rfl
theorem sn3 : ofS ⟨#[97, 49, 98]⟩ = ⟨3, 3, 10, ⟨#[97, 49, 98]⟩, ⟨#[97, 49, 98]⟩⟩ := by kernel_rfl
theorem sn4 : joinS ⟨2, 2, 8, ⟨#[97, 98]⟩, ⟨#[97, 98]⟩⟩ ⟨3, 3, 10, ⟨#[97, 49, 98]⟩, ⟨#[97, 49, 98]⟩⟩ = ⟨2, 3, 10, ⟨#[97]⟩, ⟨#[98]⟩⟩ := by kernel_rfl
theorem sn5 : empB ⟨0, 1, 110, ⟨#[97, 98]⟩, ⟨#[]⟩⟩ = true := by kernel_rfl
theorem sn6 : empB ⟨0, 3, 110, ⟨#[97, 98]⟩, ⟨#[98, 97]⟩⟩ = false := by kernel_rfl
theorem sn7 : empB ⟨0, 2, 110, ⟨#[97, 98]⟩, ⟨#[98, 97]⟩⟩ = true := by kernel_rfl
theorem sn8 : meetS ⟨0, 9, 110, ⟨#[97]⟩, ⟨#[]⟩⟩ ⟨0, 9, 110, ⟨#[98]⟩, ⟨#[]⟩⟩ = none' := by kernel_rfl
theorem sn9 : ofS ⟨#[97]⟩ = ⟨1, 1, 8, ⟨#[97]⟩, ⟨#[97]⟩⟩ := by kernel_rfl
theorem sn10 : empB ⟨1, 1, 8, ⟨#[97]⟩, ⟨#[97]⟩⟩ = false ∧ empB ⟨0, 5, 2, ⟨#[]⟩, ⟨#[]⟩⟩ = false ∧ fixedB ⟨1, 1, 8, ⟨#[97]⟩, ⟨#[97]⟩⟩ = true ∧ fixedB ⟨0, 5, 2, ⟨#[]⟩, ⟨#[]⟩⟩ = false := ⟨by kernel_rfl, by kernel_rfl, by kernel_rfl, by kernel_rfl⟩
theorem sn11 : (⟨lowS ⟨1, 1, 8, ⟨#[97]⟩, ⟨#[97]⟩⟩ + lowS ⟨0, 5, 2, ⟨#[]⟩, ⟨#[]⟩⟩, min (highS ⟨1, 1, 8, ⟨#[97]⟩, ⟨#[97]⟩⟩ + highS ⟨0, 5, 2, ⟨#[]⟩, ⟨#[]⟩⟩) 200, iOr (ownS ⟨1, 1, 8, ⟨#[97]⟩, ⟨#[97]⟩⟩) (ownS ⟨0, 5, 2, ⟨#[]⟩, ⟨#[]⟩⟩), (⟨#[97]⟩ : ByteArray) ++ ⟨#[]⟩, ⟨#[]⟩⟩ : Shp) = ⟨1, 6, 10, ⟨#[97]⟩, ⟨#[]⟩⟩ := by kernel_rfl
theorem sn12 : patS [⟨2, 1, 1, ⟨#[]⟩⟩, ⟨3, 0, 200, ⟨#[]⟩⟩, ⟨0, 0, 0, ⟨#[45]⟩⟩] = ⟨2, 200, 76, ⟨#[]⟩, ⟨#[45]⟩⟩ := by kernel_rfl
theorem sn14 : txS ⟨2, 2, 10, ⟨#[97, 49]⟩, ⟨#[97, 49]⟩⟩ = ⟨#[50, 32, 50, 32, 49, 48, 32, 50, 58, 97, 49, 32, 50, 58, 97, 49]⟩ := by kernel_rfl
def sP : List Pc := [⟨2, 1, 1, ⟨#[]⟩⟩, ⟨3, 0, 200, ⟨#[]⟩⟩, ⟨0, 0, 0, ⟨#[45]⟩⟩]
theorem np_p : NParse [] [92, 117, 92, 108, 42, 45] sP :=
  .run (a := 1) (b := 1) (u := [92, 108, 42, 45]) (by decide) rfl (by intro u h; cases h) (.run (a := 0) (b := 200) (u := [45]) (by decide) rfl (by intro u h; cases h) (.chr (by decide) (by decide) (by decide) (.inr ⟨by decide, by decide⟩) (.nil _)))
theorem sP_small : Small sP ∧ sP.length ≤ 1000 := by
  refine ⟨fun p hp => ?_, by decide⟩
  have : p.txt.size ≤ 1 := by
    simp only [sP, List.mem_cons, List.not_mem_nil, or_false] at hp
    rcases hp with rfl | rfl | rfl <;> decide
  omega
theorem sv_of {s : ByteArray} {a : Shp} (h : ofS s = a) (hs : s.size ≤ 100) (w : World) : Calls Tryz.prog 13 #[.string s] w fun e w' => e = .returned (shV a) ∧ Frm (fun _ => False) w w' := by
  rw [← h]; exact of_any s (by omega) w
theorem sv_rof {s : ByteArray} {a : Shp} (h : ofS s = a) (hs : s.size ≤ 100) (w : World) : Calls Tryz.prog 15 #[.string s] w fun e w' => e = .returned (shV a) ∧ Frm (fun _ => False) w w' := by
  rw [← h]; exact rof_any s (by omega) w
theorem sv_emp {a : Shp} {r : Bool} (h : empB a = r) (h1 : a.bg.size ≤ 1000) (h2 : a.en.size ≤ 1000) (w : World) : Calls Tryz.prog 16 #[shV a] w fun e w' => e = .returned (.bool r) ∧ Frm (fun _ => False) w w' := by
  rw [← h]; exact emp_any a h1 h2 w
set_option maxRecDepth 100000 in
set_option maxHeartbeats 4000000 in
theorem sanity8_any (w : World) (hT : Tabs w) : Calls Tryz.prog 4 #[] w fun e w' => e = .returned (.bool true) ∧ Frm (fun _ => False) w w' := by
  have o1 := sv_of sn1 (by decide)
  have o2 := sv_rof sn2 (by decide)
  have o3 := sv_rof sn3 (by decide)
  have o1r := sv_rof sn1 (by decide)
  have o9 := sv_rof sn9 (by decide)
  have j4 := join_any ⟨2, 2, 8, ⟨#[97, 98]⟩, ⟨#[97, 98]⟩⟩ ⟨3, 3, 10, ⟨#[97, 49, 98]⟩, ⟨#[97, 49, 98]⟩⟩ (by decide) (by decide)
  rw [sn4] at j4
  have e5 := sv_emp sn5 (by decide) (by decide)
  have e6 := sv_emp sn6 (by decide) (by decide)
  have e7 := sv_emp sn7 (by decide) (by decide)
  have m8 := meet_any ⟨0, 9, 110, ⟨#[97]⟩, ⟨#[]⟩⟩ ⟨0, 9, 110, ⟨#[98]⟩, ⟨#[]⟩⟩ (by decide) (by decide)
  rw [sn8] at m8
  have c11 := concat_any ⟨1, 1, 8, ⟨#[97]⟩, ⟨#[97]⟩⟩ ⟨0, 5, 2, ⟨#[]⟩, ⟨#[]⟩⟩ (by decide) (by decide) sn10.1 sn10.2.1 (by decide) sn10.2.2.1 sn10.2.2.2
  have p12 := fun (W : World) (v : Value) (hP : Pcs W v sP) (f : Frm (fun _ => False) w W) => pat_any W hP sP_small.1 sP_small.2 (hT.frm f)
  rw [show patS sP = ⟨2, 200, 76, ⟨#[]⟩, ⟨#[45]⟩⟩ from sn12] at p12
  have t14 := fun (W : World) (f : Frm (fun _ => False) w W) => text_any ⟨2, 2, 10, ⟨#[97, 49]⟩, ⟨#[97, 49]⟩⟩ ⟨by decide, by decide, by decide, by decide, by decide⟩ W (hT.frm f)
  rw [sn14] at t14
  have r5 := rparse_any (s := ⟨#[92, 117, 92, 108, 42, 45]⟩) (rs := sP) (by decide) np_p
  have f27 := full_any
  unfold fullS at f27
  unfold none' at m8
  have c11' : ∀ W, Calls Tryz.prog 18 #[shV ⟨1, 1, 8, ⟨#[97]⟩, ⟨#[97]⟩⟩, shV ⟨0, 5, 2, ⟨#[]⟩, ⟨#[]⟩⟩] W fun e w' => e = .returned (shV ⟨1, 6, 10, ⟨#[97]⟩, ⟨#[]⟩⟩) ∧ Frm (fun _ => False) W w' := fun W => by
    have := c11 W
    rw [sn11] at this
    exact this
  clear c11
  unfold shV at *
  simp only at o1 o2 o3 o1r o9 j4 e5 e6 e7 m8 c11' p12 t14 r5 f27
  have O1 := Lib.hid o1
  have O2 := Lib.hid o2
  have O3 := Lib.hid o3
  have O1r := Lib.hid o1r
  have O9 := Lib.hid o9
  have J4 := Lib.hid j4
  have E5 := Lib.hid e5
  have E6 := Lib.hid e6
  have E7 := Lib.hid e7
  have M8 := Lib.hid m8
  have C11 := Lib.hid c11'
  have P12 := Lib.hid p12
  have T14 := Lib.hid t14
  have R5 := Lib.hid r5
  have F27 := Lib.hid f27
  clear o1 o2 o3 o1r o9 j4 e5 e6 e7 m8 c11' p12 t14 r5 f27 hT
  go_enter Tryz.func4, Tryz.ntmps4
  go_upto_region 2 with fail
  obtain ⟨W1, x, hW, hx, hf, a0, a1, a2, a3, a4⟩ := one_sh w 1 0 0 ⟨#[]⟩ ⟨#[]⟩
  rw [hW, hx]
  have HF := Lib.hid hf
  clear hW hx hf
  go_wp2_with fail
  refine (O1.out _).mono ?_
  rintro e V1 ⟨rfl, f1⟩
  have a0 := f1.cell a0 (fun h => h)
  have a1 := f1.cell a1 (fun h => h)
  have a2 := f1.cell a2 (fun h => h)
  have a3 := f1.cell a3 (fun h => h)
  have a4 := f1.cell a4 (fun h => h)
  have HF := Lib.hid (HF.out.trans f1)
  clear f1
  go_wp2_with fail
  refine (O2.out _).mono ?_
  rintro e V2 ⟨rfl, f2⟩
  have a0 := f2.cell a0 (fun h => h)
  have a1 := f2.cell a1 (fun h => h)
  have a2 := f2.cell a2 (fun h => h)
  have a3 := f2.cell a3 (fun h => h)
  have a4 := f2.cell a4 (fun h => h)
  have HF := Lib.hid (HF.out.trans f2)
  clear f2
  go_wp2_with fail
  refine (O3.out _).mono ?_
  rintro e V3 ⟨rfl, f3⟩
  have a0 := f3.cell a0 (fun h => h)
  have a1 := f3.cell a1 (fun h => h)
  have a2 := f3.cell a2 (fun h => h)
  have a3 := f3.cell a3 (fun h => h)
  have a4 := f3.cell a4 (fun h => h)
  have HF := Lib.hid (HF.out.trans f3)
  clear f3
  go_wp2_with fail
  refine (J4.out _).mono ?_
  rintro e V4 ⟨rfl, f4⟩
  have a0 := f4.cell a0 (fun h => h)
  have a1 := f4.cell a1 (fun h => h)
  have a2 := f4.cell a2 (fun h => h)
  have a3 := f4.cell a3 (fun h => h)
  have a4 := f4.cell a4 (fun h => h)
  have HF := Lib.hid (HF.out.trans f4)
  clear f4
  go_wp2_with fail
  refine (E5.out _).mono ?_
  rintro e V5 ⟨rfl, f5⟩
  have a0 := f5.cell a0 (fun h => h)
  have a1 := f5.cell a1 (fun h => h)
  have a2 := f5.cell a2 (fun h => h)
  have a3 := f5.cell a3 (fun h => h)
  have a4 := f5.cell a4 (fun h => h)
  have HF := Lib.hid (HF.out.trans f5)
  clear f5
  go_wp2_with fail
  refine (E6.out _).mono ?_
  rintro e V6 ⟨rfl, f6⟩
  have a0 := f6.cell a0 (fun h => h)
  have a1 := f6.cell a1 (fun h => h)
  have a2 := f6.cell a2 (fun h => h)
  have a3 := f6.cell a3 (fun h => h)
  have a4 := f6.cell a4 (fun h => h)
  have HF := Lib.hid (HF.out.trans f6)
  clear f6
  go_wp2_with fail
  refine (E7.out _).mono ?_
  rintro e V7 ⟨rfl, f7⟩
  have a0 := f7.cell a0 (fun h => h)
  have a1 := f7.cell a1 (fun h => h)
  have a2 := f7.cell a2 (fun h => h)
  have a3 := f7.cell a3 (fun h => h)
  have a4 := f7.cell a4 (fun h => h)
  have HF := Lib.hid (HF.out.trans f7)
  clear f7
  have HG := Lib.hid HF.out.drew
  clear O1 O2 O3 J4 E5 E6 E7
  go_upto_region 4 with fail
  refine wp_region_held_drew (S := fun w' => w'.cell? ⟨x, 0, none⟩ = some (.int .i64 (1)) ∧ w'.cell? ⟨x, 1, none⟩ = some (.int .i64 (0)) ∧ w'.cell? ⟨x, 2, none⟩ = some (.int .i64 (0)) ∧ w'.cell? ⟨x, 3, none⟩ = some (.string (⟨#[]⟩)) ∧ w'.cell? ⟨x, 4, none⟩ = some (.string (⟨#[]⟩))) (by kernel_rfl) ⟨a0, a1, a2, a3, a4⟩ (fun hHeld => ?_)
  refine wpAnyH_take (i := 0) (oi := ⟨some 30, _, _, _, _, _⟩) (v := (.agg #[.int .i64 (0), .int .i64 (9), .int .i64 (110), .string (⟨#[97]⟩), .string (⟨#[]⟩)])) rfl (by kernel_rfl) (by kernel_rfl) (by kernel_rfl) (fun _ _ _ h => h) (.inl ⟨by rfl, fun w hw => by dsimp only at hw; go_simp⟩) hHeld ?_
  simp only [Act.put, List.setIfInBounds_toArray, List.set_cons_zero, List.set_cons_succ]
  refine wpAnyH_take (i := 1) (oi := ⟨some 31, _, _, _, _, _⟩) (v := (.agg #[.int .i64 (0), .int .i64 (9), .int .i64 (110), .string (⟨#[98]⟩), .string (⟨#[]⟩)])) rfl (by kernel_rfl) (by kernel_rfl) (by kernel_rfl) (fun _ _ _ h => h) (.inl ⟨by rfl, fun w hw => by dsimp only at hw; go_simp⟩) hHeld ?_
  simp only [Act.put, List.setIfInBounds_toArray, List.set_cons_zero, List.set_cons_succ]
  refine wpAnyH_take (i := 3) (oi := ⟨some 33, _, _, _, _, _⟩) (v := (.agg #[.int .i64 (1), .int .i64 (0), .int .i64 (0), .string (⟨#[]⟩), .string (⟨#[]⟩)])) rfl (by kernel_rfl) (by kernel_rfl) (by kernel_rfl) (fun _ _ _ h => h) (.inl ⟨by rfl, fun w hw => by dsimp only at hw; go_simp⟩) hHeld ?_
  simp only [Act.put, List.setIfInBounds_toArray, List.set_cons_zero, List.set_cons_succ]
  refine wpAnyH_ready (rs := [2]) (by kernel_rfl) (by simp) ?_
  refine AllReadyH.cons (o := ⟨some 32, _, _, _, _, _⟩) rfl (fun K hK => ?_) AllReadyH.nil
  go_simp
  refine (M8.out _).mono ?_
  rintro e Vz1 ⟨rfl, fz1⟩
  have HFz1 := Lib.hid (HG.out.trans fz1)
  refine hK.out _ _ ⟨fz1.cell hHeld.1 (fun h => h), fz1.cell hHeld.2.1 (fun h => h), fz1.cell hHeld.2.2.1 (fun h => h), fz1.cell hHeld.2.2.2.1 (fun h => h), fz1.cell hHeld.2.2.2.2 (fun h => h)⟩ (fun hHeld => ?_)
  clear hK K fz1 HG
  refine wpAnyH_take (i := 4) (oi := ⟨some 34, _, _, _, _, _⟩) (v := (.bool (true))) rfl (by kernel_rfl) (by kernel_rfl) (by kernel_rfl) (fun _ _ _ h => h) (.inl ⟨by rfl, fun w hw => by dsimp only at hw; go_simp⟩) hHeld ?_
  simp only [Act.put, List.setIfInBounds_toArray, List.set_cons_zero, List.set_cons_succ]
  refine wpAnyH_take (i := 5) (oi := ⟨some 35, _, _, _, _, _⟩) (v := (.bool (true))) rfl (by kernel_rfl) (by kernel_rfl) (by kernel_rfl) (fun _ _ _ h => h) (.inl ⟨by rfl, fun w hw => by dsimp only at hw; go_simp⟩) hHeld ?_
  simp only [Act.put, List.setIfInBounds_toArray, List.set_cons_zero, List.set_cons_succ]
  refine wpAnyH_take (i := 7) (oi := ⟨some 37, _, _, _, _, _⟩) (v := (.agg #[.int .i64 (0), .int .i64 (5), .int .i64 (2), .string (⟨#[]⟩), .string (⟨#[]⟩)])) rfl (by kernel_rfl) (by kernel_rfl) (by kernel_rfl) (fun _ _ _ h => h) (.inl ⟨by rfl, fun w hw => by dsimp only at hw; go_simp⟩) hHeld ?_
  simp only [Act.put, List.setIfInBounds_toArray, List.set_cons_zero, List.set_cons_succ]
  refine wpAnyH_take (i := 9) (oi := ⟨some 39, _, _, _, _, _⟩) (v := (.agg #[.int .i64 (1), .int .i64 (6), .int .i64 (10), .string (⟨#[97]⟩), .string (⟨#[]⟩)])) rfl (by kernel_rfl) (by kernel_rfl) (by kernel_rfl) (fun _ _ _ h => h) (.inl ⟨by rfl, fun w hw => by dsimp only at hw; go_simp⟩) hHeld ?_
  simp only [Act.put, List.setIfInBounds_toArray, List.set_cons_zero, List.set_cons_succ]
  refine wpAnyH_ready (rs := [6]) (by kernel_rfl) (by simp) ?_
  refine AllReadyH.cons (o := ⟨some 36, _, _, _, _, _⟩) rfl (fun K hK => ?_) AllReadyH.nil
  go_simp
  refine (O9.out _).mono ?_
  rintro e Vz2 ⟨rfl, fz2⟩
  have HFz2 := Lib.hid (HFz1.out.trans fz2)
  refine hK.out _ _ ⟨fz2.cell hHeld.1 (fun h => h), fz2.cell hHeld.2.1 (fun h => h), fz2.cell hHeld.2.2.1 (fun h => h), fz2.cell hHeld.2.2.2.1 (fun h => h), fz2.cell hHeld.2.2.2.2 (fun h => h)⟩ (fun hHeld => ?_)
  clear hK K fz2 HFz1
  refine wpAnyH_ready (rs := [8]) (by kernel_rfl) (by simp) ?_
  refine AllReadyH.cons (o := ⟨some 38, _, _, _, _, _⟩) rfl (fun K hK => ?_) AllReadyH.nil
  go_simp
  refine (C11.out _).mono ?_
  rintro e Vz3 ⟨rfl, fz3⟩
  have HFz3 := Lib.hid (HFz2.out.trans fz3)
  refine hK.out _ _ ⟨fz3.cell hHeld.1 (fun h => h), fz3.cell hHeld.2.1 (fun h => h), fz3.cell hHeld.2.2.1 (fun h => h), fz3.cell hHeld.2.2.2.1 (fun h => h), fz3.cell hHeld.2.2.2.2 (fun h => h)⟩ (fun hHeld => ?_)
  clear hK K fz3 HFz2
  refine wpAnyH_take (i := 10) (oi := ⟨some 40, _, _, _, _, _⟩) (v := (.bool (true))) rfl (by kernel_rfl) (by kernel_rfl) (by kernel_rfl) (fun _ _ _ h => h) (.inl ⟨by rfl, fun w hw => by dsimp only at hw; go_simp⟩) hHeld ?_
  simp only [Act.put, List.setIfInBounds_toArray, List.set_cons_zero, List.set_cons_succ]
  refine wpAnyH_take (i := 11) (oi := ⟨some 41, _, _, _, _, _⟩) (v := (.bool (true))) rfl (by kernel_rfl) (by kernel_rfl) (by kernel_rfl) (fun _ _ _ h => h) (.inl ⟨by rfl, fun w hw => by dsimp only at hw; go_simp⟩) hHeld ?_
  simp only [Act.put, List.setIfInBounds_toArray, List.set_cons_zero, List.set_cons_succ]
  refine wpAnyH_take (i := 12) (oi := ⟨some 4, _, _, _, _, _⟩) (v := (.bool (true))) rfl (by kernel_rfl) (by kernel_rfl) (by kernel_rfl) (fun _ _ _ h => h) (.inl ⟨by rfl, fun w hw => by dsimp only at hw; go_simp⟩) hHeld ?_
  simp only [Act.put, List.setIfInBounds_toArray, List.set_cons_zero, List.set_cons_succ]
  refine wpAnyH_done (by kernel_rfl) ?_ _
  have HF := Lib.hid HFz3.out
  clear HFz3 M8 O9 C11 hHeld a0 a1 a2 a3 a4
  go_wp2_with fail
  refine (R5.out _).mono ?_
  rintro e U1 ⟨v, rfl, hP, f⟩
  have HF1 := Lib.hid (HF.out.trans f)
  have HP := Lib.hid hP
  clear f HF hP
  go_wp2_with fail
  refine (P12.out _ _ HP.out HF1.out).mono ?_
  rintro e U2 ⟨rfl, f⟩
  have HF2 := Lib.hid (HF1.out.trans f)
  clear f HF1 HP
  go_wp2_with fail
  refine (O1r.out _).mono ?_
  rintro e U3 ⟨rfl, f⟩
  have HF3 := Lib.hid (HF2.out.trans f)
  clear f HF2
  go_wp2_with fail
  refine (T14.out _ HF3.out).mono ?_
  rintro e U4 ⟨rfl, f⟩
  have HF4 := Lib.hid (HF3.out.trans f)
  clear f HF3
  go_wp2_with fail
  refine (F27.out _).mono ?_
  rintro e U5 ⟨rfl, f⟩
  have HF5 := Lib.hid (HF4.out.trans f)
  clear f HF4
  go_wp2_with fail
  go_ret
  exact ⟨ret_bool (by decide), HF5.out⟩
end Go.Proofs.YtgnjakaamgeibaaGreatDoor
