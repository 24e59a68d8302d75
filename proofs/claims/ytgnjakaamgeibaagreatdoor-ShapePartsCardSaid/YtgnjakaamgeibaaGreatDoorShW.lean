/-
  The reference's Word and Made, cut: shapes that are ints and short strings. Conditions: the numbers lie in memory.
-/
import Derived.Test.YtgnjakaamgeibaaGreatDoorShN
import Derived.Test.YtgnjakaamgeibaaGreatDoorSmp
import Derived.StillTailTactics
import Derived.Deep.CutBlock
namespace Go.Proofs.YtgnjakaamgeibaaGreatDoor
open Go.RowKit Go.Shelf
attribute [local go_sem] Oper.semAt_some
def In64 (n : Int) : Prop := -9223372036854775808 ≤ n ∧ n ≤ 9223372036854775807
/-- The words of a shape are ints, its strings are short. -/
structure ShW (l h c : Int) (b d : ByteArray) (m : Nat) : Prop where
  lo : In64 l
  hi : In64 h
  cl : In64 c
  bg : b.size ≤ m
  en : d.size ≤ m
def wdA : Array Value := #[.string ⟨#[]⟩, .string ⟨#[97]⟩, .string ⟨#[97, 98]⟩, .string ⟨#[97, 98, 97]⟩, .string ⟨#[98, 97]⟩, .string ⟨#[66, 49]⟩, .string ⟨#[45]⟩, .string ⟨#[49]⟩, .string ⟨#[32, 120]⟩, .string ⟨#[65, 98, 45, 49]⟩, .string ⟨#[98, 97, 98]⟩]
theorem wdA_at (j : Nat) (h : j < 11) : ∃ s : ByteArray, s.size ≤ 4 ∧ wdA[j]? = some (.string s) := by
  have : j = 0 ∨ j = 1 ∨ j = 2 ∨ j = 3 ∨ j = 4 ∨ j = 5 ∨ j = 6 ∨ j = 7 ∨ j = 8 ∨ j = 9 ∨ j = 10 := by omega
  rcases this with rfl | rfl | rfl | rfl | rfl | rfl | rfl | rfl | rfl | rfl | rfl <;> exact ⟨_, by decide, rfl⟩
set_option maxRecDepth 100000 in
theorem wd_any (n : Int) (hn : In64 n) (w : World) : Calls Tryz.prog 56 #[.int .i64 n] w fun e w' => ∃ s : ByteArray, e = .returned (.string s) ∧ s.size ≤ 4 ∧ Frm (fun _ => False) w w' := by
  have hm := mod_any n 11
  have Hm := Lib.hid fun W => hm W (by decide) (by decide) hn.1 hn.2
  have h0 := Int.emod_nonneg n (b := 11) (by decide)
  have h1 := Int.emod_lt_of_pos n (b := 11) (by decide)
  obtain ⟨j, hj⟩ : ∃ j : Nat, n % 11 = (j : Int) := ⟨(n % 11).toNat, by omega⟩
  rw [hj] at Hm
  have hj11 : j < 11 := by omega
  have hjI : (j : Int) < 11 := by omega
  obtain ⟨s, hs, hat⟩ := wdA_at j hj11
  have hN := heap_alloc_new w (.cells wdA 9)
  have hc : (w.alloc (.cells wdA 9)).cell? ⟨w.heap.size, j, none⟩ = some (.string s) := by rw [cell_of_row _ _ _ _ _ _ hN, hat]
  unfold wdA at hc
  clear hm h0 h1 hj hat hN
  go_enter Tryz.func56, Tryz.ntmps56
  go_wp2_with fail
  refine (Hm.out _).mono ?_
  rintro e w1 ⟨rfl, rfl⟩
  go_wp2_with fail
  go_ret
  exact ⟨s, rfl, hs, (Frm.refl _ _).alloc _⟩
set_option maxRecDepth 100000 in
theorem cut8_any (l h c : Int) (b d : ByteArray) (hl : In64 l) (hh : In64 h) (hc : In64 c) (hb : b.size ≤ 9223372036854775807) (hd : d.size ≤ 9223372036854775807) (w : World) :
    Calls Tryz.prog 24 #[.agg #[.int .i64 l, .int .i64 h, .int .i64 c, .string b, .string d]] w fun e w' => ∃ l h c b d, e = .returned (.agg #[.int .i64 l, .int .i64 h, .int .i64 c, .string b, .string d]) ∧ ShW l h c b d 12 ∧ Frm (fun _ => False) w w' := by
  have e1 : min (b.size : Int) 12 = ((min b.size 12 : Nat) : Int) := by omega
  have e2 : min (d.size : Int) 12 = ((min d.size 12 : Nat) : Int) := by omega
  have s1 : (b.extract 0 (min b.size 12)).size ≤ 12 := by rw [ByteArray.size_extract]; omega
  have s2 : (d.extract 0 (min d.size 12)).size ≤ 12 := by rw [ByteArray.size_extract]; omega
  have hs1 := extc b (min b.size 12) (by omega)
  have hs2 := extc d (min d.size 12) (by omega)
  obtain ⟨B, hB⟩ : ∃ B, B = b.extract 0 (min b.size 12) := ⟨_, rfl⟩
  obtain ⟨D, hD⟩ : ∃ D, D = d.extract 0 (min d.size 12) := ⟨_, rfl⟩
  rw [← hB] at s1 hs1
  rw [← hD] at s2 hs2
  generalize min b.size 12 = nb at *
  generalize min d.size 12 = nd at *
  clear hB hD
  go_enter Tryz.func24, Tryz.ntmps24
  go_wp2_with fail
  exact ret_row Tryz.results24 (heap_alloc2_new w _ _) rfl rfl ⟨l, h, c, B, D, rfl, ⟨hl, hh, hc, s1, s2⟩, ((Frm.refl _ _).alloc _).alloc _⟩
def q6 (qs : List Int) : Obj := .cells (qs.map (Value.int .i64)).toArray 70
theorem q6_set (qs : List Int) (i : Nat) (v : Int) : (qs.map (Value.int .i64)).toArray.setIfInBounds i (.int .i64 v) = ((qs.set i v).map (Value.int .i64)).toArray := by
  rw [List.setIfInBounds_toArray, List.map_set]
theorem ofS_w (s : ByteArray) (hs : s.size ≤ 12) : ShW (ofS s).lo (ofS s).hi (ofS s).cl (ofS s).bg (ofS s).en 12 := by
  unfold ofS
  split
  · exact ⟨⟨by simp only; omega, by simp only; omega⟩, ⟨by simp only; omega, by simp only; omega⟩, bits_rng _, hs, hs⟩
  · exact ⟨⟨by decide, by decide⟩, ⟨by decide, by decide⟩, ⟨by decide, by decide⟩, by decide, by decide⟩
theorem rof_w (s : ByteArray) (hs : s.size ≤ 9223372036854775807) (w : World) : Calls Tryz.prog 15 #[.string s] w fun e w' => e = .returned (.agg #[.int .i64 (ofS s).lo, .int .i64 (ofS s).hi, .int .i64 (ofS s).cl, .string (ofS s).bg, .string (ofS s).en]) ∧ Frm (fun _ => False) w w' := rof_any s hs w
set_option maxRecDepth 100000 in
set_option maxHeartbeats 4000000 in
theorem made8_any {ao : Option Addr} {n cap : Nat} {l : List Int} (w : World) (hI : IntsAt w ao l) (hn : l.length = n) (hb : n ≤ maxLen) :
    Calls Tryz.prog 23 #[.slice ao n cap] w fun e w' => ∃ l h c b d, e = .returned (.agg #[.int .i64 l, .int .i64 h, .int .i64 c, .string b, .string d]) ∧ ShW l h c b d 12 ∧ Frm (fun _ => False) w w' := by
  subst hn
  have hbn : l.length ≤ 9223372036854775807 := by unfold maxLen at hb; omega
  have HI := Lib.hid hI
  clear hI hb
  have hr0 := Res.start w w (Frm.refl _ _)
  have hq0 := heap_alloc_new (w.alloc (.cells #[.int .i64 0, .int .i64 0, .int .i64 0, .string ⟨#[]⟩, .string ⟨#[]⟩] 24)) (.cells #[.int .i64 0, .int .i64 0, .int .i64 0, .int .i64 0, .int .i64 0, .int .i64 0] 70)
  have hr1 := hr0.still ((Frm.refl _ _).alloc (.cells #[.int .i64 0, .int .i64 0, .int .i64 0, .int .i64 0, .int .i64 0, .int .i64 0] 70))
  have hsz : (w.alloc (.cells #[.int .i64 0, .int .i64 0, .int .i64 0, .string ⟨#[]⟩, .string ⟨#[]⟩] 24)).heap.size = w.heap.size + 1 := by simp
  rw [hsz] at hq0
  have HR0 := Lib.hid hr1
  have HQ0 := Lib.hid hq0
  clear hr0 hq0 hr1 hsz
  go_enter Tryz.func23, Tryz.ntmps23
  go_upto_region 2 with fail
  obtain ⟨W1, hW1⟩ : ∃ W, W = ((w.alloc (.cells #[.int .i64 0, .int .i64 0, .int .i64 0, .string ⟨#[]⟩, .string ⟨#[]⟩] 24)).alloc (.cells #[.int .i64 0, .int .i64 0, .int .i64 0, .int .i64 0, .int .i64 0, .int .i64 0] 70)) := ⟨_, rfl⟩
  obtain ⟨Q, hQ⟩ : ∃ q, q = w.heap.size + 1 := ⟨_, rfl⟩
  obtain ⟨g, hg⟩ : ∃ q, q = w.heap.size := ⟨_, rfl⟩
  rw [← hW1, ← hQ] at HQ0
  rw [← hW1, ← hg] at HR0
  rw [← hW1, ← hQ, ← hg]
  have hQn : w.heap.size ≤ Q := by omega
  have hgQ : g ≠ Q := by omega
  have HQn := Lib.hid hQn
  clear hW1 hQ hg hQn
  have hQ0 : Hid (W1.heap[Q]? = some (q6 [0, 0, 0, 0, 0, 0])) := HQ0
  clear HQ0
  go_wp2_with fail
  go_loopw [4] (fun s wr => ∃ (k : Nat) (qs : List Int), s = .int .i64 k ∧ k ≤ 6 ∧ Hid (wr.heap[Q]? = some (q6 qs)) ∧ Hid (qs.length = 6 ∧ ∀ x ∈ qs, In64 x) ∧ Hid (Res w wr g)) (fun s _ => 6 - (intOf s).toNat)
  case atStart => exact ⟨0, [0, 0, 0, 0, 0, 0], rfl, Nat.zero_le _, hQ0, Lib.hid ⟨rfl, fun x hx => by simp only [List.mem_cons, List.not_mem_nil, or_false] at hx; have hx0 : x = 0 := (by omega); rw [hx0]; exact ⟨by decide, by decide⟩⟩, HR0⟩
  case round =>
    clear hQ0 HR0
    obtain ⟨k, qs, rfl, hk, hq, hqs, hres⟩ := hrel
    have hq1 := hq.out
    obtain ⟨hl6, hin⟩ := hqs.out
    by_cases hgo : k < 6 ∧ k < l.length
    · obtain ⟨h6, hkl⟩ := hgo
      have h6I : (k : Int) < 6 := by omega
      have hklI : (k : Int) < (l.length : Int) := by omega
      obtain ⟨lb, lo, hla, -⟩ := HI.out 0 (by omega)
      subst hla
      obtain ⟨ca, b1, b2⟩ := ints_at (HI.out.still hres.out.frm) k hkl
      have hcell : wr.cell? ⟨Q, k, none⟩ = some (.int .i64 (qs[k]'(by omega))) := by
        rw [cell_of_row _ _ _ _ _ _ hq1, List.getElem?_toArray, List.getElem?_map, List.getElem?_eq_getElem (by omega)]
        rfl
      have hfz := frozen_of_row wr Q k _ _ hq1
      have hnq : Hid ((wr.setCell ⟨Q, k, none⟩ (.int .i64 l[k])).heap[Q]? = some (q6 (qs.set k l[k]))) := Lib.hid (by
        have := heap_set hq1 (i := k) (.int .i64 l[k])
        rw [q6_set] at this
        exact this)
      have hnl : Hid ((qs.set k l[k]).length = 6 ∧ ∀ x ∈ qs.set k l[k], In64 x) := Lib.hid ⟨by rw [List.length_set]; exact hl6, fun x hx => by
        rcases List.mem_or_eq_of_mem_set hx with h | h
        · exact hin x h
        · rw [h]; exact ⟨b1, b2⟩⟩
      have hnr : Hid (Res w (wr.setCell ⟨Q, k, none⟩ (.int .i64 l[k])) g) := Lib.hid (hres.out.move (hres.out.frm.setCell (.inr HQn.out) _) (heap_setCell_other _ _ _ _ hgQ))
      generalize l[k] = v at *
      clear hq hqs hres hq1 hin b1 b2
      go_wp2_with fail
      go_roundw
      case rel => exact ⟨k + 1, _, by go_num, by omega, hnq, hnl, hnr⟩
      case measure => simp [intOf]; omega
    · obtain ⟨q0, q1, q2, q3, q4, q5, rfl⟩ : ∃ q0 q1 q2 q3 q4 q5, qs = [q0, q1, q2, q3, q4, q5] := by
        match qs, hl6 with
        | [q0, q1, q2, q3, q4, q5], _ => exact ⟨q0, q1, q2, q3, q4, q5, rfl⟩
      have r0 := hin q0 (by simp)
      have r1 := hin q1 (by simp)
      have r2 := hin q2 (by simp)
      have r3 := hin q3 (by simp)
      have r4 := hin q4 (by simp)
      have r5 := hin q5 (by simp)
      have hq1 : wr.heap[Q]? = some (.cells #[.int .i64 q0, .int .i64 q1, .int .i64 q2, .int .i64 q3, .int .i64 q4, .int .i64 q5] 70 (0, 0)) := hq1
      have hres := hres.out
      have c0 : wr.cell? ⟨Q, 0, none⟩ = some (.int .i64 q0) := by rw [cell_of_row _ _ _ _ _ _ hq1]; rfl
      have m0 := mod_any q0 5
      have M0 := Lib.hid fun W => m0 W (by decide) (by decide) r0.1 r0.2
      have m1 := mod_any q1 6
      have M1 := Lib.hid fun W => m1 W (by decide) (by decide) r1.1 r1.2
      have m5 := mod_any q5 7
      have M5 := Lib.hid fun W => m5 W (by decide) (by decide) r5.1 r5.2
      have m0' := mod_any q0 210
      have M0' := Lib.hid fun W => m0' W (by decide) (by decide) r0.1 r0.2
      have m1' := mod_any q1 210
      have M1' := Lib.hid fun W => m1' W (by decide) (by decide) r1.1 r1.2
      have m2 := mod_any q2 128
      have M2 := Lib.hid fun W => m2 W (by decide) (by decide) r2.1 r2.2
      have m23 := mod_any q2 3
      have M23 := Lib.hid fun W => m23 W (by decide) (by decide) r2.1 r2.2
      have m25 := mod_any q2 5
      have M25 := Lib.hid fun W => m25 W (by decide) (by decide) r2.1 r2.2
      have W3' := Lib.hid (wd_any q3 r3)
      have W4' := Lib.hid (wd_any q4 r4)
      have y0 := Int.emod_nonneg q0 (b := 5) (by decide)
      have y0' := Int.emod_lt_of_pos q0 (b := 5) (by decide)
      have y1 := Int.emod_nonneg q1 (b := 6) (by decide)
      have y1' := Int.emod_lt_of_pos q1 (b := 6) (by decide)
      have y5 := Int.emod_nonneg q5 (b := 7) (by decide)
      have y5' := Int.emod_lt_of_pos q5 (b := 7) (by decide)
      have x0 := Int.emod_nonneg q0 (b := 210) (by decide)
      have x0' := Int.emod_lt_of_pos q0 (b := 210) (by decide)
      have x1 := Int.emod_nonneg q1 (b := 210) (by decide)
      have x1' := Int.emod_lt_of_pos q1 (b := 210) (by decide)
      have x2 := Int.emod_nonneg q2 (b := 128) (by decide)
      have x2' := Int.emod_lt_of_pos q2 (b := 128) (by decide)
      generalize q0 % 5 = a0 at *
      generalize q1 % 6 = a1 at *
      generalize q5 % 7 = a5 at *
      generalize q0 % 210 = b0 at *
      generalize q1 % 210 = b1 at *
      generalize q2 % 128 = b2 at *
      generalize q2 % 3 = d3 at *
      generalize q2 % 5 = d5 at *
      have R2 := Lib.hid r2
      clear m0 m1 m5 m0' m1' m2 m23 m25 r0 r1 r2 r3 r4 r5 hq hqs hin
      have hrm := Res.start w _ hres.frm
      have hcase : ¬ k < 6 ∨ (k < 6 ∧ ¬ k < l.length) := by omega
      have fa : Frm (fun _ => False) wr (wr.alloc (.cells #[.int .i64 a0, .int .i64 0, .int .i64 110, .string ⟨#[]⟩, .string ⟨#[]⟩] 24)) := (Frm.refl _ _).alloc _
      have hrow := heap_alloc_new wr (.cells #[.int .i64 a0, .int .i64 0, .int .i64 110, .string ⟨#[]⟩, .string ⟨#[]⟩] 24)
      have hq2 := fa.heap hq1 (fun h => h)
      have hres2 := hres.still fa
      have hgm : g ≠ wr.heap.size := fun e => by have := hres.lt; omega
      have hQm : Q ≠ wr.heap.size := fun e => by have := (Array.getElem?_eq_some_iff.1 hq1).1; omega
      have hrm2 : Res w (wr.alloc (.cells #[.int .i64 a0, .int .i64 0, .int .i64 110, .string ⟨#[]⟩, .string ⟨#[]⟩] 24)) wr.heap.size := ⟨hres2.frm, hres.frm.size, _, _, _, _, _, hrow⟩
      have Hrow := Lib.hid hrow
      have Hq2 := Lib.hid hq2
      have Hres2 := Lib.hid hres2
      have Hrm2 := Lib.hid hrm2
      have Hgm := Lib.hid hgm
      have HQm := Lib.hid hQm
      clear hrow hq2 hres2 hrm2 fa hrm hres hgm hQm hq1
      rcases hcase with h6 | ⟨h6, hkl⟩
      all_goals
        have hd : (decide ((k : Int) < 6) && decide ((k : Int) < (l.length : Int))) = false := by simp; omega
        go_wp2_with fail
        refine (M0.out _).mono ?_
        rintro e V1 ⟨rfl, rfl⟩
        clear c0
        go_upto_region 7 with fail
        have hrow := Hrow.out
        have hq2 := Hq2.out
        have hres2 := Hres2.out
        have hrm2 := Hrm2.out
        have hgm := Hgm.out
        have hQm := HQm.out
        obtain ⟨W2, hW2⟩ : ∃ W, W = wr.alloc (.cells #[.int .i64 a0, .int .i64 0, .int .i64 110, .string ⟨#[]⟩, .string ⟨#[]⟩] 24) := ⟨_, rfl⟩
        obtain ⟨m, hm⟩ : ∃ m, m = wr.heap.size := ⟨_, rfl⟩
        rw [← hW2] at hrow hq2 hres2 hrm2
        rw [← hm] at hrow hrm2 hgm hQm
        rw [← hW2, ← hm]
        clear hW2 hm Hrow Hq2 Hres2 Hrm2 Hgm HQm
        have hwr : IntKind.i64.wrap (a0 + a1) = a0 + a1 := IntWalk.i64_in _ (by omega)
        have hrowD : W2.drew.heap[m]? = _ := hrow
        have hqD : W2.drew.heap[Q]? = _ := hq2
        have hresD := hres2.still (Frm.refl _ _).drew
        have hrmD := hrm2.still (Frm.refl _ _).drew
        have e1 : W2.drew.cell? ⟨Q, 1, none⟩ = some (.int .i64 q1) := by rw [cell_of_row _ _ _ _ _ _ hqD]; rfl
        obtain ⟨⟨k0, k1, k2, k3, k4⟩, z0, z1, z2, z3, z4⟩ := row_facts hrowD
        have hnQm := hQm
        have hmQ : m ≠ Q := fun e => hQm e.symm
        have hmg : m ≠ g := fun e => hgm e.symm
        generalize hWD : W2.drew = W5 at *
        refine wp_region_held_drew (S := fun w' => w'.cell? ⟨Q, 1, none⟩ = some (.int .i64 (q1))) (by kernel_rfl) (by rw [hWD]; exact e1) (fun hHeld => ?_)
        rw [hWD]
        rw [hWD] at hHeld
        clear hWD
        refine wpAnyH_take (i := 0) (oi := ⟨some 27, _, _, _, _, _⟩) (v := (.pointer (some ⟨m, 0, none⟩))) rfl (by kernel_rfl) (by kernel_rfl) (by kernel_rfl) (fun _ _ _ h => h) (.inl ⟨by rfl, fun w hw => by dsimp only at hw; go_simp⟩) hHeld ?_
        simp only [Act.put, List.setIfInBounds_toArray, List.set_cons_zero, List.set_cons_succ]
        refine wpAnyH_take (i := 2) (oi := ⟨some 29, _, _, _, _, _⟩) (v := (.pointer (some ⟨Q, 1, none⟩))) rfl (by kernel_rfl) (by kernel_rfl) (by kernel_rfl) (fun _ _ _ h => h) (.inl ⟨by rfl, fun w hw => by dsimp only at hw; go_simp⟩) hHeld ?_
        simp only [Act.put, List.setIfInBounds_toArray, List.set_cons_zero, List.set_cons_succ]
        refine wpAnyH_take (i := 3) (oi := ⟨some 30, _, _, _, _, _⟩) (v := (.int .i64 (q1))) rfl (by kernel_rfl) (by kernel_rfl) (by kernel_rfl) (fun _ _ _ h => h) (.inl ⟨by rfl, fun w hw => by dsimp only at hw; go_simp⟩) hHeld ?_
        simp only [Act.put, List.setIfInBounds_toArray, List.set_cons_zero, List.set_cons_succ]
        refine wpAnyH_ready (rs := [1, 4]) (by kernel_rfl) (by simp) ?_
        refine AllReadyH.cons (o := ⟨some 28, _, _, _, _, _⟩) rfl (fun K hK => ?_) (AllReadyH.cons (o := ⟨some 31, _, _, _, _, _⟩) rfl (fun K hK => ?_) AllReadyH.nil)
        · skip
          go_simp
          refine hK.out _ _ hHeld (fun hHeld => ?_)
          clear hK K
          refine wpAnyH_ready (rs := [4]) (by kernel_rfl) (by simp) ?_
          refine AllReadyH.cons (o := ⟨some 31, _, _, _, _, _⟩) rfl (fun K hK => ?_) AllReadyH.nil
          go_simp
          refine (M1.out _).mono ?_
          rintro e V1 ⟨rfl, rfl⟩
          refine hK.out _ _ hHeld (fun hHeld => ?_)
          clear hK K
          refine wpAnyH_take (i := 5) (oi := ⟨some 32, _, _, _, _, _⟩) (v := (.int .i64 (a0 + a1))) rfl (by kernel_rfl) (by kernel_rfl) (by kernel_rfl) (fun _ _ _ h => h) (.inl ⟨by rfl, fun w hw => by dsimp only at hw; go_simp⟩) hHeld ?_
          simp only [Act.put, List.setIfInBounds_toArray, List.set_cons_zero, List.set_cons_succ]
          refine wpAnyH_take (i := 6) (oi := ⟨some 33, _, _, _, _, _⟩) (v := (.pointer (some ⟨m, 1, none⟩))) rfl (by kernel_rfl) (by kernel_rfl) (by kernel_rfl) (fun _ _ _ h => h) (.inl ⟨by rfl, fun w hw => by dsimp only at hw; go_simp⟩) hHeld ?_
          simp only [Act.put, List.setIfInBounds_toArray, List.set_cons_zero, List.set_cons_succ]
          refine wpAnyH_ready (rs := [7]) (by kernel_rfl) (by simp) ?_
          refine AllReadyH.cons (o := ⟨none, _, _, _, _, _⟩) rfl (fun K hK => ?_) AllReadyH.nil
          go_simp
          refine hK.out _ _ (by exact cell_other hnQm hHeld) (fun hHeld => ?_)
          clear hK K
          refine wpAnyH_done (by kernel_rfl) ?_ _
          obtain ⟨W3, hW3, hr3, hf3, hc3, hh3⟩ := hrmD.field hrowD 1 (.int .i64 (a0 + a1))
          rw [hW3]
          have hr3 : W3.heap[m]? = some (.cells #[.int .i64 a0, .int .i64 (a0 + a1), .int .i64 110, .string ⟨#[]⟩, .string ⟨#[]⟩] 24 (0, 0)) := hr3
          have hrm3 : Res w W3 m := ⟨hf3, hrmD.new, _, _, _, _, _, hr3⟩
          have hres3 := hresD.move hf3 (hh3 _ hgm)
          have hq3 : W3.heap[Q]? = some (.cells #[.int .i64 q0, .int .i64 q1, .int .i64 q2, .int .i64 q3, .int .i64 q4, .int .i64 q5] 70 (0, 0)) := (hh3 _ hQm).trans hqD
          clear k0 k1 k2 k3 k4 z0 z1 z2 z3 z4 hrow hq2 hres2 hrm2 hrowD hqD hresD hrmD e1 hHeld hf3 hc3 hh3 hW3 hwr M0 M1
          go_upto_region 8 with fail
          have e5 : W3.cell? ⟨Q, 5, none⟩ = some (.int .i64 q5) := by rw [cell_of_row _ _ _ _ _ _ hq3]; rfl
          go_wp2_with fail
          refine (M5.out _).mono ?_
          rintro e V2 ⟨rfl, rfl⟩
          clear e5 M5
          go_upto_block 2 with (fail)
          go_cut [] from 37 (fun wx => ∃ l h c, In64 l ∧ In64 h ∧ In64 c ∧ wx.heap[m]? = some (.cells #[.int .i64 l, .int .i64 h, .int .i64 c, .string ⟨#[]⟩, .string ⟨#[]⟩] 24 (0, 0)) ∧ Res w wx g ∧ Res w wx m ∧ wx.heap[Q]? = some (.cells #[.int .i64 q0, .int .i64 q1, .int .i64 q2, .int .i64 q3, .int .i64 q4, .int .i64 q5] 70 (0, 0)))
          case first =>
            have e0 : W3.cell? ⟨Q, 0, none⟩ = some (.int .i64 q0) := by rw [cell_of_row _ _ _ _ _ _ hq3]; rfl
            have e1 : W3.cell? ⟨Q, 1, none⟩ = some (.int .i64 q1) := by rw [cell_of_row _ _ _ _ _ _ hq3]; rfl
            have e2 : W3.cell? ⟨Q, 2, none⟩ = some (.int .i64 q2) := by rw [cell_of_row _ _ _ _ _ _ hq3]; rfl
            have e3 : W3.cell? ⟨Q, 3, none⟩ = some (.int .i64 q3) := by rw [cell_of_row _ _ _ _ _ _ hq3]; rfl
            have e4 : W3.cell? ⟨Q, 4, none⟩ = some (.int .i64 q4) := by rw [cell_of_row _ _ _ _ _ _ hq3]; rfl
            obtain ⟨⟨k0, k1, k2, k3, k4⟩, z0, z1, z2, z3, z4⟩ := row_facts hr3
            have hcl : ∀ u0 u1 u2 : Int, In64 u0 → In64 u1 → In64 u2 → True := fun _ _ _ _ _ _ => trivial
            clear hcl
            have Hr3 := Lib.hid hr3
            have Hrm3 := Lib.hid hrm3
            have Hres3 := Lib.hid hres3
            have Hq3 := Lib.hid hq3
            have h5 : a5 = 0 ∨ a5 = 1 ∨ a5 = 2 ∨ a5 = 3 ∨ a5 = 4 ∨ a5 = 5 ∨ a5 = 6 := by omega
            have ia : In64 a0 := ⟨by omega, by omega⟩
            have ib : In64 (a0 + a1) := ⟨by omega, by omega⟩
            have ic : In64 110 := ⟨by decide, by decide⟩
            have id2 : In64 200 := ⟨by decide, by decide⟩
            have ie : In64 (b0 - 3) := ⟨by omega, by omega⟩
            have if' : In64 (b1 - 3) := ⟨by omega, by omega⟩
            have ig : In64 b2 := ⟨by omega, by omega⟩
            have w1 : IntKind.i64.wrap (b0 - 3) = b0 - 3 := IntWalk.i64_in _ (by omega)
            have w2 : IntKind.i64.wrap (b1 - 3) = b1 - 3 := IntWalk.i64_in _ (by omega)
            have Ia := Lib.hid (And.intro ia (And.intro ib (And.intro ic (And.intro id2 (And.intro ie (And.intro if' ig))))))
            clear hr3 hrm3 hres3 hq3 ia ib ic id2 ie if' ig y0 y0' y1 y1' y5 y5' x0 x0' x1 x1' x2 x2' h6 hd
            rcases h5 with rfl | rfl | rfl | rfl | rfl | rfl | rfl
            · go_wp2_with fail
              go_meet
              case rel => exact ⟨a0, a0 + a1, 110, Ia.out.1, Ia.out.2.1, Ia.out.2.2.1, Hr3.out, Hres3.out, Hrm3.out, Hq3.out⟩
            · go_wp2_with fail
              go_meet
              case rel =>
                obtain ⟨_, rfl, f1, f2, f3, f4⟩ := Hrm3.out.field Hr3.out 2 (.int .i64 q2)
                exact ⟨a0, a0 + a1, q2, Ia.out.1, Ia.out.2.1, R2.out, f1, Hres3.out.move f2 (f4 _ hgm), ⟨f2, Hrm3.out.new, _, _, _, _, _, f1⟩, (f4 _ hQm).trans Hq3.out⟩
            · go_wp2_with fail
              go_meet
              case rel =>
                obtain ⟨_, rfl, f1, f2, f3, f4⟩ := Hrm3.out.field Hr3.out 1 (.int .i64 200)
                exact ⟨a0, 200, 110, Ia.out.1, Ia.out.2.2.2.1, Ia.out.2.2.1, f1, Hres3.out.move f2 (f4 _ hgm), ⟨f2, Hrm3.out.new, _, _, _, _, _, f1⟩, (f4 _ hQm).trans Hq3.out⟩
            · go_wp2_with fail
              refine (M0'.out _).mono ?_
              rintro e V3 ⟨rfl, rfl⟩
              go_wp2_with fail
              refine (M1'.out _).mono ?_
              rintro e V3 ⟨rfl, rfl⟩
              go_wp2_with fail
              go_meet
              case rel =>
                obtain ⟨_, rfl, f1, f2, f3, f4⟩ := Hrm3.out.field Hr3.out 0 (.int .i64 (b0 - 3))
                have hrm5 : Res w _ m := ⟨f2, Hrm3.out.new, _, _, _, _, _, f1⟩
                obtain ⟨_, rfl, g1, g2, g3, g4⟩ := hrm5.field f1 1 (.int .i64 (b1 - 3))
                exact ⟨b0 - 3, b1 - 3, 110, Ia.out.2.2.2.2.1, Ia.out.2.2.2.2.2.1, Ia.out.2.2.1, g1, (Hres3.out.move f2 (f4 _ hgm)).move g2 (g4 _ hgm), ⟨g2, Hrm3.out.new, _, _, _, _, _, g1⟩, (g4 _ hQm).trans ((f4 _ hQm).trans Hq3.out)⟩
            · go_upto_region 17 with fail
              have HF := Lib.hid Hres3.out.frm.drew
              have hres := Hres3.out.still (Frm.refl _ _).drew
              have hnQg : Q ≠ g := fun e => hgQ e.symm
              refine wp_region_held_drew (S := fun w' => w'.cell? ⟨Q, 3, none⟩ = some (.int .i64 (q3)) ∧ w'.cell? ⟨Q, 4, none⟩ = some (.int .i64 (q4)) ∧ Res w w' g) (by kernel_rfl) ⟨e3, e4, hres⟩ (fun hHeld => ?_)
              refine wpAnyH_take (i := 0) (oi := ⟨some 59, _, _, _, _, _⟩) (v := (.pointer (some ⟨Q, 3, none⟩))) rfl (by kernel_rfl) (by kernel_rfl) (by kernel_rfl) (fun _ _ _ h => h) (.inl ⟨by rfl, fun w hw => by dsimp only at hw; go_simp⟩) hHeld ?_
              simp only [Act.put, List.setIfInBounds_toArray, List.set_cons_zero, List.set_cons_succ]
              refine wpAnyH_take (i := 1) (oi := ⟨some 60, _, _, _, _, _⟩) (v := (.int .i64 (q3))) rfl (by kernel_rfl) (by kernel_rfl) (by kernel_rfl) (fun _ _ _ h => h) (.inl ⟨by rfl, fun w hw => by dsimp only at hw; go_simp⟩) hHeld ?_
              simp only [Act.put, List.setIfInBounds_toArray, List.set_cons_zero, List.set_cons_succ]
              refine wpAnyH_take (i := 3) (oi := ⟨some 62, _, _, _, _, _⟩) (v := (.pointer (some ⟨Q, 4, none⟩))) rfl (by kernel_rfl) (by kernel_rfl) (by kernel_rfl) (fun _ _ _ h => h) (.inl ⟨by rfl, fun w hw => by dsimp only at hw; go_simp⟩) hHeld ?_
              simp only [Act.put, List.setIfInBounds_toArray, List.set_cons_zero, List.set_cons_succ]
              refine wpAnyH_take (i := 4) (oi := ⟨some 63, _, _, _, _, _⟩) (v := (.int .i64 (q4))) rfl (by kernel_rfl) (by kernel_rfl) (by kernel_rfl) (fun _ _ _ h => h) (.inl ⟨by rfl, fun w hw => by dsimp only at hw; go_simp⟩) hHeld ?_
              simp only [Act.put, List.setIfInBounds_toArray, List.set_cons_zero, List.set_cons_succ]
              refine wpAnyH_ready (rs := [2]) (by kernel_rfl) (by simp) ?_
              refine AllReadyH.cons (o := ⟨some 61, _, _, _, _, _⟩) rfl (fun K hK => ?_) AllReadyH.nil
              go_simp
              refine (W3'.out _).mono ?_
              rintro e Vr1 ⟨s1, rfl, hs1, fr1⟩
              have HFr1 := Lib.hid (HF.out.trans fr1)
              refine hK.out _ _ ⟨fr1.cell hHeld.1 (fun h => h), fr1.cell hHeld.2.1 (fun h => h), hHeld.2.2.still fr1⟩ (fun hHeld => ?_)
              clear hK K fr1 HF
              refine wpAnyH_ready (rs := [5]) (by kernel_rfl) (by simp) ?_
              refine AllReadyH.cons (o := ⟨some 64, _, _, _, _, _⟩) rfl (fun K hK => ?_) AllReadyH.nil
              go_simp
              refine (W4'.out _).mono ?_
              rintro e Vr2 ⟨s2, rfl, hs2, fr2⟩
              have HFr2 := Lib.hid (HFr1.out.trans fr2)
              refine hK.out _ _ ⟨fr2.cell hHeld.1 (fun h => h), fr2.cell hHeld.2.1 (fun h => h), hHeld.2.2.still fr2⟩ (fun hHeld => ?_)
              clear hK K fr2 HFr1
              refine wpAnyH_take (i := 6) (oi := ⟨some 65, _, _, _, _, _⟩) (v := (.string ((s1) ++ (s2)))) rfl (by kernel_rfl) (by kernel_rfl) (by kernel_rfl) (fun _ _ _ h => h) (.inl ⟨by rfl, fun w hw => by dsimp only at hw; go_simp; all_goals omega⟩) hHeld ?_
              simp only [Act.put, List.setIfInBounds_toArray, List.set_cons_zero, List.set_cons_succ]
              refine wpAnyH_ready (rs := [7]) (by kernel_rfl) (by simp) ?_
              refine AllReadyH.cons (o := ⟨some 66, _, _, _, _, _⟩) rfl (fun K hK => ?_) AllReadyH.nil
              go_simp
              refine (rof_w (s1 ++ s2) (by rw [ByteArray.size_append]; omega) _).mono ?_
              rintro e Vr3 ⟨rfl, fr3⟩
              have HFr3 := Lib.hid (HFr2.out.trans fr3)
              refine hK.out _ _ ⟨fr3.cell hHeld.1 (fun h => h), fr3.cell hHeld.2.1 (fun h => h), hHeld.2.2.still fr3⟩ (fun hHeld => ?_)
              clear hK K fr3 HFr2
              refine wpAnyH_ready (rs := [8]) (by kernel_rfl) (by simp) ?_
              refine AllReadyH.cons (o := ⟨none, _, _, _, _, _⟩) rfl (fun K hK => ?_) AllReadyH.nil
              have hrr4 := hHeld.2.2
              obtain ⟨u0, u1, u2, u3, u4, ⟨c0, c1, c2, c3, c4⟩, z0, z1, z2, z3, z4⟩ := hrr4.facts
              go_simp
              clear c0 c1 c2 c3 c4 z0 z1 z2 z3 z4
              obtain ⟨Vr4, hVr4, hrowr4, hresr4, hcellr4⟩ := hrr4.put (.int .i64 ((ofS (s1 ++ s2)).lo)) (.int .i64 ((ofS (s1 ++ s2)).hi)) (.int .i64 ((ofS (s1 ++ s2)).cl)) (.string ((ofS (s1 ++ s2)).bg)) (.string ((ofS (s1 ++ s2)).en))
              rw [hVr4]
              clear hVr4 hrr4
              refine hK.out _ _ ⟨hcellr4 _ _ _ hnQg hHeld.1, hcellr4 _ _ _ hnQg hHeld.2.1, hresr4⟩ (fun hHeld => ?_)
              clear hK K hcellr4
              refine wpAnyH_done (by kernel_rfl) ?_ _
              go_wp2_with fail
              exact ret_row Tryz.results23 hrowr4 rfl rfl ⟨_, _, _, _, _, rfl, ofS_w _ (by rw [ByteArray.size_append]; omega), hresr4.frm⟩
            · go_wp2_with fail
              refine (M2.out _).mono ?_
              rintro e V3 ⟨rfl, rfl⟩
              go_wp2_with fail
              go_meet
              case rel =>
                obtain ⟨_, rfl, f1, f2, f3, f4⟩ := Hrm3.out.field Hr3.out 2 (.int .i64 b2)
                exact ⟨a0, a0 + a1, b2, Ia.out.1, Ia.out.2.1, Ia.out.2.2.2.2.2.2, f1, Hres3.out.move f2 (f4 _ hgm), ⟨f2, Hrm3.out.new, _, _, _, _, _, f1⟩, (f4 _ hQm).trans Hq3.out⟩
            · go_wp2_with fail
              go_meet
              case rel => exact ⟨a0, a0 + a1, 110, Ia.out.1, Ia.out.2.1, Ia.out.2.2.1, Hr3.out, Hres3.out, Hrm3.out, Hq3.out⟩
          case rest =>
            obtain ⟨l', h', c', i1, i2, i3, hr4, hres4, hrm4, hq4⟩ := hcut
            have Hi := Lib.hid (And.intro i1 (And.intro i2 i3))
            have e3 : wc.cell? ⟨Q, 3, none⟩ = some (.int .i64 q3) := by rw [cell_of_row _ _ _ _ _ _ hq4]; rfl
            clear i1 i2 i3 hr3 hrm3 hres3 hq3 M0' M1' M2 y0 y0' y1 y1' y5 y5' x0 x0' x1 x1' x2 x2' h6 hd R2
            go_wp2_with fail
            refine (W3'.out _).mono ?_
            rintro e V3 ⟨s1, rfl, hs1, f⟩
            have hr4 := f.heap hr4 (fun h => h)
            have hq4 := f.heap hq4 (fun h => h)
            have hres4 := hres4.still f
            have hrm4 := hrm4.still f
            obtain ⟨⟨k0, k1, k2, k3, k4⟩, z0, z1, z2, z3, z4⟩ := row_facts hr4
            clear f e3
            go_upto_region 21 with fail
            obtain ⟨W5, hW5, hr5, hf5, hc5, hh5⟩ := hrm4.field hr4 3 (.string s1)
            rw [hW5]
            have hrm5 : Res w W5 m := ⟨hf5, hrm4.new, _, _, _, _, _, hr5⟩
            have hres5 := hres4.move hf5 (hh5 _ hgm)
            have hq5 := (hh5 _ hQm).trans hq4
            have e4 : W5.cell? ⟨Q, 4, none⟩ = some (.int .i64 q4) := by rw [cell_of_row _ _ _ _ _ _ hq5]; rfl
            clear hW5 hf5 hc5 hh5 hr4 hres4 hrm4 hq4 k0 k1 k2 k3 k4 z0 z1 z2 z3 z4
            go_wp2_with fail
            refine (W4'.out _).mono ?_
            rintro e V4 ⟨s2, rfl, hs2, f⟩
            have hr5 : V4.heap[m]? = some (.cells #[.int .i64 l', .int .i64 h', .int .i64 c', .string s1, .string ⟨#[]⟩] 24 (0, 0)) := f.heap hr5 (fun h => h)
            have hq5 := f.heap hq5 (fun h => h)
            have hres5 := hres5.still f
            have hrm5 := hrm5.still f
            obtain ⟨⟨k0, k1, k2, k3, k4⟩, z0, z1, z2, z3, z4⟩ := row_facts hr5
            clear f e4
            go_upto_region 22 with fail
            obtain ⟨W6, hW6, hr6, hf6, hc6, hh6⟩ := hrm5.field hr5 4 (.string s2)
            rw [hW6]
            have hr6 : W6.heap[m]? = some (.cells #[.int .i64 l', .int .i64 h', .int .i64 c', .string s1, .string s2] 24 (0, 0)) := hr6
            have hrm6 : Res w W6 m := ⟨hf6, hrm5.new, _, _, _, _, _, hr6⟩
            have hres6 := hres5.move hf6 (hh6 _ hgm)
            have hq6 := (hh6 _ hQm).trans hq5
            have e2 : W6.cell? ⟨Q, 2, none⟩ = some (.int .i64 q2) := by rw [cell_of_row _ _ _ _ _ _ hq6]; rfl
            clear hW6 hf6 hc6 hh6 hr5 hres5 hrm5 hq5 k0 k1 k2 k3 k4 z0 z1 z2 z3 z4 hq6 W3' W4'
            obtain ⟨⟨k0, k1, k2, k3, k4⟩, z0, z1, z2, z3, z4⟩ := row_facts hr6
            have Hs1 := Lib.hid hs1
            have Hs2 := Lib.hid hs2
            clear hs1 hs2
            go_wp2_with fail
            refine (M23.out _).mono ?_
            rintro e V5 ⟨rfl, rfl⟩
            by_cases p1 : d3 = 0
            · have p1b : (d3 == 0) = true := by rw [beq_iff_eq]; exact p1
              go_wp2_with fail
              refine (M25.out _).mono ?_
              rintro e V5 ⟨rfl, rfl⟩
              by_cases p2 : d5 < 2
              · go_upto_region 26 with fail
                obtain ⟨W7, hW7, hr7, hf7, hc7, hh7⟩ := hrm6.field hr6 3 (.string ⟨#[]⟩)
                rw [hW7]
                have hrm7 : Res w W7 m := ⟨hf7, hrm6.new, _, _, _, _, _, hr7⟩
                have hres7 := hres6.move hf7 (hh7 _ hgm)
                clear hW7 hf7 hc7 hh7
                obtain ⟨W8, hW8, hr8, hf8, hc8, hh8⟩ := hrm7.field hr7 4 (.string ⟨#[]⟩)
                rw [hW8]
                have hrm8 : Res w W8 m := ⟨hf8, hrm7.new, _, _, _, _, _, hr8⟩
                have hres8 := hres7.move hf8 (hh8 _ hgm)
                clear hW8 hf8 hc8 hh8
                have hrz : _ = some (Obj.cells #[.int .i64 l', .int .i64 h', .int .i64 c', .string ⟨#[]⟩, .string ⟨#[]⟩] 24 (0, 0)) := hr8
                clear k0 k1 k2 k3 k4 z0 z1 z2 z3 z4 e2
                obtain ⟨⟨k0, k1, k2, k3, k4⟩, -⟩ := row_facts hrz
                obtain ⟨u0, u1, u2, u3, u4, ⟨c0, c1, c2, c3, c4⟩, z0, z1, z2, z3, z4⟩ := hres8.facts
                have Hr := Lib.hid hres8
                clear hres8 hrz hr8 hrm8
                go_wp2_with fail
                exact Hr.out.ret Tryz.results23 rfl rfl fun W f => ⟨l', h', c', _, _, rfl, ⟨Hi.out.1, Hi.out.2.1, Hi.out.2.2, by decide, by decide⟩, f⟩
              · go_upto_region 26 with fail
                obtain ⟨W7, hW7, hr7, hf7, hc7, hh7⟩ := hrm6.field hr6 3 (.string ⟨#[]⟩)
                rw [hW7]
                have hrm7 : Res w W7 m := ⟨hf7, hrm6.new, _, _, _, _, _, hr7⟩
                have hres7 := hres6.move hf7 (hh7 _ hgm)
                clear hW7 hf7 hc7 hh7
                have hrz : _ = some (Obj.cells #[.int .i64 l', .int .i64 h', .int .i64 c', .string ⟨#[]⟩, .string s2] 24 (0, 0)) := hr7
                clear k0 k1 k2 k3 k4 z0 z1 z2 z3 z4 e2
                obtain ⟨⟨k0, k1, k2, k3, k4⟩, -⟩ := row_facts hrz
                obtain ⟨u0, u1, u2, u3, u4, ⟨c0, c1, c2, c3, c4⟩, z0, z1, z2, z3, z4⟩ := hres7.facts
                have Hr := Lib.hid hres7
                clear hres7 hrz hr7 hrm7
                go_wp2_with fail
                exact Hr.out.ret Tryz.results23 rfl rfl fun W f => ⟨l', h', c', _, _, rfl, ⟨Hi.out.1, Hi.out.2.1, Hi.out.2.2, by decide, by have := Hs2.out; omega⟩, f⟩
            · have p1b : (d3 == 0) = false := by rw [beq_eq_false_iff_ne]; exact p1
              go_wp2_with fail
              refine (M25.out _).mono ?_
              rintro e V5 ⟨rfl, rfl⟩
              by_cases p2 : d5 < 2
              · go_upto_region 26 with fail
                obtain ⟨W8, hW8, hr8, hf8, hc8, hh8⟩ := hrm6.field hr6 4 (.string ⟨#[]⟩)
                rw [hW8]
                have hrm8 : Res w W8 m := ⟨hf8, hrm6.new, _, _, _, _, _, hr8⟩
                have hres8 := hres6.move hf8 (hh8 _ hgm)
                clear hW8 hf8 hc8 hh8
                have hrz : _ = some (Obj.cells #[.int .i64 l', .int .i64 h', .int .i64 c', .string s1, .string ⟨#[]⟩] 24 (0, 0)) := hr8
                clear k0 k1 k2 k3 k4 z0 z1 z2 z3 z4 e2
                obtain ⟨⟨k0, k1, k2, k3, k4⟩, -⟩ := row_facts hrz
                obtain ⟨u0, u1, u2, u3, u4, ⟨c0, c1, c2, c3, c4⟩, z0, z1, z2, z3, z4⟩ := hres8.facts
                have Hr := Lib.hid hres8
                clear hres8 hrz hr8 hrm8
                go_wp2_with fail
                exact Hr.out.ret Tryz.results23 rfl rfl fun W f => ⟨l', h', c', _, _, rfl, ⟨Hi.out.1, Hi.out.2.1, Hi.out.2.2, by have := Hs1.out; omega, by decide⟩, f⟩
              · go_upto_region 26 with fail
                have hrz : _ = some (Obj.cells #[.int .i64 l', .int .i64 h', .int .i64 c', .string s1, .string s2] 24 (0, 0)) := hr6
                clear k0 k1 k2 k3 k4 z0 z1 z2 z3 z4 e2
                obtain ⟨⟨k0, k1, k2, k3, k4⟩, -⟩ := row_facts hrz
                obtain ⟨u0, u1, u2, u3, u4, ⟨c0, c1, c2, c3, c4⟩, z0, z1, z2, z3, z4⟩ := hres6.facts
                have Hr := Lib.hid hres6
                clear hres6 hrz hr6 hrm6
                go_wp2_with fail
                exact Hr.out.ret Tryz.results23 rfl rfl fun W f => ⟨l', h', c', _, _, rfl, ⟨Hi.out.1, Hi.out.2.1, Hi.out.2.2, by have := Hs1.out; omega, by have := Hs2.out; omega⟩, f⟩
        · skip
          go_simp
          refine (M1.out _).mono ?_
          rintro e V1 ⟨rfl, rfl⟩
          refine hK.out _ _ hHeld (fun hHeld => ?_)
          clear hK K
          refine wpAnyH_ready (rs := [1]) (by kernel_rfl) (by simp) ?_
          refine AllReadyH.cons (o := ⟨some 28, _, _, _, _, _⟩) rfl (fun K hK => ?_) AllReadyH.nil
          go_simp
          refine hK.out _ _ hHeld (fun hHeld => ?_)
          clear hK K
          refine wpAnyH_take (i := 5) (oi := ⟨some 32, _, _, _, _, _⟩) (v := (.int .i64 (a0 + a1))) rfl (by kernel_rfl) (by kernel_rfl) (by kernel_rfl) (fun _ _ _ h => h) (.inl ⟨by rfl, fun w hw => by dsimp only at hw; go_simp⟩) hHeld ?_
          simp only [Act.put, List.setIfInBounds_toArray, List.set_cons_zero, List.set_cons_succ]
          refine wpAnyH_take (i := 6) (oi := ⟨some 33, _, _, _, _, _⟩) (v := (.pointer (some ⟨m, 1, none⟩))) rfl (by kernel_rfl) (by kernel_rfl) (by kernel_rfl) (fun _ _ _ h => h) (.inl ⟨by rfl, fun w hw => by dsimp only at hw; go_simp⟩) hHeld ?_
          simp only [Act.put, List.setIfInBounds_toArray, List.set_cons_zero, List.set_cons_succ]
          refine wpAnyH_ready (rs := [7]) (by kernel_rfl) (by simp) ?_
          refine AllReadyH.cons (o := ⟨none, _, _, _, _, _⟩) rfl (fun K hK => ?_) AllReadyH.nil
          go_simp
          refine hK.out _ _ (by exact cell_other hnQm hHeld) (fun hHeld => ?_)
          clear hK K
          refine wpAnyH_done (by kernel_rfl) ?_ _
          obtain ⟨W3, hW3, hr3, hf3, hc3, hh3⟩ := hrmD.field hrowD 1 (.int .i64 (a0 + a1))
          rw [hW3]
          have hr3 : W3.heap[m]? = some (.cells #[.int .i64 a0, .int .i64 (a0 + a1), .int .i64 110, .string ⟨#[]⟩, .string ⟨#[]⟩] 24 (0, 0)) := hr3
          have hrm3 : Res w W3 m := ⟨hf3, hrmD.new, _, _, _, _, _, hr3⟩
          have hres3 := hresD.move hf3 (hh3 _ hgm)
          have hq3 : W3.heap[Q]? = some (.cells #[.int .i64 q0, .int .i64 q1, .int .i64 q2, .int .i64 q3, .int .i64 q4, .int .i64 q5] 70 (0, 0)) := (hh3 _ hQm).trans hqD
          clear k0 k1 k2 k3 k4 z0 z1 z2 z3 z4 hrow hq2 hres2 hrm2 hrowD hqD hresD hrmD e1 hHeld hf3 hc3 hh3 hW3 hwr M0 M1
          go_upto_region 8 with fail
          have e5 : W3.cell? ⟨Q, 5, none⟩ = some (.int .i64 q5) := by rw [cell_of_row _ _ _ _ _ _ hq3]; rfl
          go_wp2_with fail
          refine (M5.out _).mono ?_
          rintro e V2 ⟨rfl, rfl⟩
          clear e5 M5
          go_upto_block 2 with (fail)
          go_cut [] from 37 (fun wx => ∃ l h c, In64 l ∧ In64 h ∧ In64 c ∧ wx.heap[m]? = some (.cells #[.int .i64 l, .int .i64 h, .int .i64 c, .string ⟨#[]⟩, .string ⟨#[]⟩] 24 (0, 0)) ∧ Res w wx g ∧ Res w wx m ∧ wx.heap[Q]? = some (.cells #[.int .i64 q0, .int .i64 q1, .int .i64 q2, .int .i64 q3, .int .i64 q4, .int .i64 q5] 70 (0, 0)))
          case first =>
            have e0 : W3.cell? ⟨Q, 0, none⟩ = some (.int .i64 q0) := by rw [cell_of_row _ _ _ _ _ _ hq3]; rfl
            have e1 : W3.cell? ⟨Q, 1, none⟩ = some (.int .i64 q1) := by rw [cell_of_row _ _ _ _ _ _ hq3]; rfl
            have e2 : W3.cell? ⟨Q, 2, none⟩ = some (.int .i64 q2) := by rw [cell_of_row _ _ _ _ _ _ hq3]; rfl
            have e3 : W3.cell? ⟨Q, 3, none⟩ = some (.int .i64 q3) := by rw [cell_of_row _ _ _ _ _ _ hq3]; rfl
            have e4 : W3.cell? ⟨Q, 4, none⟩ = some (.int .i64 q4) := by rw [cell_of_row _ _ _ _ _ _ hq3]; rfl
            obtain ⟨⟨k0, k1, k2, k3, k4⟩, z0, z1, z2, z3, z4⟩ := row_facts hr3
            have hcl : ∀ u0 u1 u2 : Int, In64 u0 → In64 u1 → In64 u2 → True := fun _ _ _ _ _ _ => trivial
            clear hcl
            have Hr3 := Lib.hid hr3
            have Hrm3 := Lib.hid hrm3
            have Hres3 := Lib.hid hres3
            have Hq3 := Lib.hid hq3
            have h5 : a5 = 0 ∨ a5 = 1 ∨ a5 = 2 ∨ a5 = 3 ∨ a5 = 4 ∨ a5 = 5 ∨ a5 = 6 := by omega
            have ia : In64 a0 := ⟨by omega, by omega⟩
            have ib : In64 (a0 + a1) := ⟨by omega, by omega⟩
            have ic : In64 110 := ⟨by decide, by decide⟩
            have id2 : In64 200 := ⟨by decide, by decide⟩
            have ie : In64 (b0 - 3) := ⟨by omega, by omega⟩
            have if' : In64 (b1 - 3) := ⟨by omega, by omega⟩
            have ig : In64 b2 := ⟨by omega, by omega⟩
            have w1 : IntKind.i64.wrap (b0 - 3) = b0 - 3 := IntWalk.i64_in _ (by omega)
            have w2 : IntKind.i64.wrap (b1 - 3) = b1 - 3 := IntWalk.i64_in _ (by omega)
            have Ia := Lib.hid (And.intro ia (And.intro ib (And.intro ic (And.intro id2 (And.intro ie (And.intro if' ig))))))
            clear hr3 hrm3 hres3 hq3 ia ib ic id2 ie if' ig y0 y0' y1 y1' y5 y5' x0 x0' x1 x1' x2 x2' h6 hd
            rcases h5 with rfl | rfl | rfl | rfl | rfl | rfl | rfl
            · go_wp2_with fail
              go_meet
              case rel => exact ⟨a0, a0 + a1, 110, Ia.out.1, Ia.out.2.1, Ia.out.2.2.1, Hr3.out, Hres3.out, Hrm3.out, Hq3.out⟩
            · go_wp2_with fail
              go_meet
              case rel =>
                obtain ⟨_, rfl, f1, f2, f3, f4⟩ := Hrm3.out.field Hr3.out 2 (.int .i64 q2)
                exact ⟨a0, a0 + a1, q2, Ia.out.1, Ia.out.2.1, R2.out, f1, Hres3.out.move f2 (f4 _ hgm), ⟨f2, Hrm3.out.new, _, _, _, _, _, f1⟩, (f4 _ hQm).trans Hq3.out⟩
            · go_wp2_with fail
              go_meet
              case rel =>
                obtain ⟨_, rfl, f1, f2, f3, f4⟩ := Hrm3.out.field Hr3.out 1 (.int .i64 200)
                exact ⟨a0, 200, 110, Ia.out.1, Ia.out.2.2.2.1, Ia.out.2.2.1, f1, Hres3.out.move f2 (f4 _ hgm), ⟨f2, Hrm3.out.new, _, _, _, _, _, f1⟩, (f4 _ hQm).trans Hq3.out⟩
            · go_wp2_with fail
              refine (M0'.out _).mono ?_
              rintro e V3 ⟨rfl, rfl⟩
              go_wp2_with fail
              refine (M1'.out _).mono ?_
              rintro e V3 ⟨rfl, rfl⟩
              go_wp2_with fail
              go_meet
              case rel =>
                obtain ⟨_, rfl, f1, f2, f3, f4⟩ := Hrm3.out.field Hr3.out 0 (.int .i64 (b0 - 3))
                have hrm5 : Res w _ m := ⟨f2, Hrm3.out.new, _, _, _, _, _, f1⟩
                obtain ⟨_, rfl, g1, g2, g3, g4⟩ := hrm5.field f1 1 (.int .i64 (b1 - 3))
                exact ⟨b0 - 3, b1 - 3, 110, Ia.out.2.2.2.2.1, Ia.out.2.2.2.2.2.1, Ia.out.2.2.1, g1, (Hres3.out.move f2 (f4 _ hgm)).move g2 (g4 _ hgm), ⟨g2, Hrm3.out.new, _, _, _, _, _, g1⟩, (g4 _ hQm).trans ((f4 _ hQm).trans Hq3.out)⟩
            · go_upto_region 17 with fail
              have HF := Lib.hid Hres3.out.frm.drew
              have hres := Hres3.out.still (Frm.refl _ _).drew
              have hnQg : Q ≠ g := fun e => hgQ e.symm
              refine wp_region_held_drew (S := fun w' => w'.cell? ⟨Q, 3, none⟩ = some (.int .i64 (q3)) ∧ w'.cell? ⟨Q, 4, none⟩ = some (.int .i64 (q4)) ∧ Res w w' g) (by kernel_rfl) ⟨e3, e4, hres⟩ (fun hHeld => ?_)
              refine wpAnyH_take (i := 0) (oi := ⟨some 59, _, _, _, _, _⟩) (v := (.pointer (some ⟨Q, 3, none⟩))) rfl (by kernel_rfl) (by kernel_rfl) (by kernel_rfl) (fun _ _ _ h => h) (.inl ⟨by rfl, fun w hw => by dsimp only at hw; go_simp⟩) hHeld ?_
              simp only [Act.put, List.setIfInBounds_toArray, List.set_cons_zero, List.set_cons_succ]
              refine wpAnyH_take (i := 1) (oi := ⟨some 60, _, _, _, _, _⟩) (v := (.int .i64 (q3))) rfl (by kernel_rfl) (by kernel_rfl) (by kernel_rfl) (fun _ _ _ h => h) (.inl ⟨by rfl, fun w hw => by dsimp only at hw; go_simp⟩) hHeld ?_
              simp only [Act.put, List.setIfInBounds_toArray, List.set_cons_zero, List.set_cons_succ]
              refine wpAnyH_take (i := 3) (oi := ⟨some 62, _, _, _, _, _⟩) (v := (.pointer (some ⟨Q, 4, none⟩))) rfl (by kernel_rfl) (by kernel_rfl) (by kernel_rfl) (fun _ _ _ h => h) (.inl ⟨by rfl, fun w hw => by dsimp only at hw; go_simp⟩) hHeld ?_
              simp only [Act.put, List.setIfInBounds_toArray, List.set_cons_zero, List.set_cons_succ]
              refine wpAnyH_take (i := 4) (oi := ⟨some 63, _, _, _, _, _⟩) (v := (.int .i64 (q4))) rfl (by kernel_rfl) (by kernel_rfl) (by kernel_rfl) (fun _ _ _ h => h) (.inl ⟨by rfl, fun w hw => by dsimp only at hw; go_simp⟩) hHeld ?_
              simp only [Act.put, List.setIfInBounds_toArray, List.set_cons_zero, List.set_cons_succ]
              refine wpAnyH_ready (rs := [2]) (by kernel_rfl) (by simp) ?_
              refine AllReadyH.cons (o := ⟨some 61, _, _, _, _, _⟩) rfl (fun K hK => ?_) AllReadyH.nil
              go_simp
              refine (W3'.out _).mono ?_
              rintro e Vr1 ⟨s1, rfl, hs1, fr1⟩
              have HFr1 := Lib.hid (HF.out.trans fr1)
              refine hK.out _ _ ⟨fr1.cell hHeld.1 (fun h => h), fr1.cell hHeld.2.1 (fun h => h), hHeld.2.2.still fr1⟩ (fun hHeld => ?_)
              clear hK K fr1 HF
              refine wpAnyH_ready (rs := [5]) (by kernel_rfl) (by simp) ?_
              refine AllReadyH.cons (o := ⟨some 64, _, _, _, _, _⟩) rfl (fun K hK => ?_) AllReadyH.nil
              go_simp
              refine (W4'.out _).mono ?_
              rintro e Vr2 ⟨s2, rfl, hs2, fr2⟩
              have HFr2 := Lib.hid (HFr1.out.trans fr2)
              refine hK.out _ _ ⟨fr2.cell hHeld.1 (fun h => h), fr2.cell hHeld.2.1 (fun h => h), hHeld.2.2.still fr2⟩ (fun hHeld => ?_)
              clear hK K fr2 HFr1
              refine wpAnyH_take (i := 6) (oi := ⟨some 65, _, _, _, _, _⟩) (v := (.string ((s1) ++ (s2)))) rfl (by kernel_rfl) (by kernel_rfl) (by kernel_rfl) (fun _ _ _ h => h) (.inl ⟨by rfl, fun w hw => by dsimp only at hw; go_simp; all_goals omega⟩) hHeld ?_
              simp only [Act.put, List.setIfInBounds_toArray, List.set_cons_zero, List.set_cons_succ]
              refine wpAnyH_ready (rs := [7]) (by kernel_rfl) (by simp) ?_
              refine AllReadyH.cons (o := ⟨some 66, _, _, _, _, _⟩) rfl (fun K hK => ?_) AllReadyH.nil
              go_simp
              refine (rof_w (s1 ++ s2) (by rw [ByteArray.size_append]; omega) _).mono ?_
              rintro e Vr3 ⟨rfl, fr3⟩
              have HFr3 := Lib.hid (HFr2.out.trans fr3)
              refine hK.out _ _ ⟨fr3.cell hHeld.1 (fun h => h), fr3.cell hHeld.2.1 (fun h => h), hHeld.2.2.still fr3⟩ (fun hHeld => ?_)
              clear hK K fr3 HFr2
              refine wpAnyH_ready (rs := [8]) (by kernel_rfl) (by simp) ?_
              refine AllReadyH.cons (o := ⟨none, _, _, _, _, _⟩) rfl (fun K hK => ?_) AllReadyH.nil
              have hrr4 := hHeld.2.2
              obtain ⟨u0, u1, u2, u3, u4, ⟨c0, c1, c2, c3, c4⟩, z0, z1, z2, z3, z4⟩ := hrr4.facts
              go_simp
              clear c0 c1 c2 c3 c4 z0 z1 z2 z3 z4
              obtain ⟨Vr4, hVr4, hrowr4, hresr4, hcellr4⟩ := hrr4.put (.int .i64 ((ofS (s1 ++ s2)).lo)) (.int .i64 ((ofS (s1 ++ s2)).hi)) (.int .i64 ((ofS (s1 ++ s2)).cl)) (.string ((ofS (s1 ++ s2)).bg)) (.string ((ofS (s1 ++ s2)).en))
              rw [hVr4]
              clear hVr4 hrr4
              refine hK.out _ _ ⟨hcellr4 _ _ _ hnQg hHeld.1, hcellr4 _ _ _ hnQg hHeld.2.1, hresr4⟩ (fun hHeld => ?_)
              clear hK K hcellr4
              refine wpAnyH_done (by kernel_rfl) ?_ _
              go_wp2_with fail
              exact ret_row Tryz.results23 hrowr4 rfl rfl ⟨_, _, _, _, _, rfl, ofS_w _ (by rw [ByteArray.size_append]; omega), hresr4.frm⟩
            · go_wp2_with fail
              refine (M2.out _).mono ?_
              rintro e V3 ⟨rfl, rfl⟩
              go_wp2_with fail
              go_meet
              case rel =>
                obtain ⟨_, rfl, f1, f2, f3, f4⟩ := Hrm3.out.field Hr3.out 2 (.int .i64 b2)
                exact ⟨a0, a0 + a1, b2, Ia.out.1, Ia.out.2.1, Ia.out.2.2.2.2.2.2, f1, Hres3.out.move f2 (f4 _ hgm), ⟨f2, Hrm3.out.new, _, _, _, _, _, f1⟩, (f4 _ hQm).trans Hq3.out⟩
            · go_wp2_with fail
              go_meet
              case rel => exact ⟨a0, a0 + a1, 110, Ia.out.1, Ia.out.2.1, Ia.out.2.2.1, Hr3.out, Hres3.out, Hrm3.out, Hq3.out⟩
          case rest =>
            obtain ⟨l', h', c', i1, i2, i3, hr4, hres4, hrm4, hq4⟩ := hcut
            have Hi := Lib.hid (And.intro i1 (And.intro i2 i3))
            have e3 : wc.cell? ⟨Q, 3, none⟩ = some (.int .i64 q3) := by rw [cell_of_row _ _ _ _ _ _ hq4]; rfl
            clear i1 i2 i3 hr3 hrm3 hres3 hq3 M0' M1' M2 y0 y0' y1 y1' y5 y5' x0 x0' x1 x1' x2 x2' h6 hd R2
            go_wp2_with fail
            refine (W3'.out _).mono ?_
            rintro e V3 ⟨s1, rfl, hs1, f⟩
            have hr4 := f.heap hr4 (fun h => h)
            have hq4 := f.heap hq4 (fun h => h)
            have hres4 := hres4.still f
            have hrm4 := hrm4.still f
            obtain ⟨⟨k0, k1, k2, k3, k4⟩, z0, z1, z2, z3, z4⟩ := row_facts hr4
            clear f e3
            go_upto_region 21 with fail
            obtain ⟨W5, hW5, hr5, hf5, hc5, hh5⟩ := hrm4.field hr4 3 (.string s1)
            rw [hW5]
            have hrm5 : Res w W5 m := ⟨hf5, hrm4.new, _, _, _, _, _, hr5⟩
            have hres5 := hres4.move hf5 (hh5 _ hgm)
            have hq5 := (hh5 _ hQm).trans hq4
            have e4 : W5.cell? ⟨Q, 4, none⟩ = some (.int .i64 q4) := by rw [cell_of_row _ _ _ _ _ _ hq5]; rfl
            clear hW5 hf5 hc5 hh5 hr4 hres4 hrm4 hq4 k0 k1 k2 k3 k4 z0 z1 z2 z3 z4
            go_wp2_with fail
            refine (W4'.out _).mono ?_
            rintro e V4 ⟨s2, rfl, hs2, f⟩
            have hr5 : V4.heap[m]? = some (.cells #[.int .i64 l', .int .i64 h', .int .i64 c', .string s1, .string ⟨#[]⟩] 24 (0, 0)) := f.heap hr5 (fun h => h)
            have hq5 := f.heap hq5 (fun h => h)
            have hres5 := hres5.still f
            have hrm5 := hrm5.still f
            obtain ⟨⟨k0, k1, k2, k3, k4⟩, z0, z1, z2, z3, z4⟩ := row_facts hr5
            clear f e4
            go_upto_region 22 with fail
            obtain ⟨W6, hW6, hr6, hf6, hc6, hh6⟩ := hrm5.field hr5 4 (.string s2)
            rw [hW6]
            have hr6 : W6.heap[m]? = some (.cells #[.int .i64 l', .int .i64 h', .int .i64 c', .string s1, .string s2] 24 (0, 0)) := hr6
            have hrm6 : Res w W6 m := ⟨hf6, hrm5.new, _, _, _, _, _, hr6⟩
            have hres6 := hres5.move hf6 (hh6 _ hgm)
            have hq6 := (hh6 _ hQm).trans hq5
            have e2 : W6.cell? ⟨Q, 2, none⟩ = some (.int .i64 q2) := by rw [cell_of_row _ _ _ _ _ _ hq6]; rfl
            clear hW6 hf6 hc6 hh6 hr5 hres5 hrm5 hq5 k0 k1 k2 k3 k4 z0 z1 z2 z3 z4 hq6 W3' W4'
            obtain ⟨⟨k0, k1, k2, k3, k4⟩, z0, z1, z2, z3, z4⟩ := row_facts hr6
            have Hs1 := Lib.hid hs1
            have Hs2 := Lib.hid hs2
            clear hs1 hs2
            go_wp2_with fail
            refine (M23.out _).mono ?_
            rintro e V5 ⟨rfl, rfl⟩
            by_cases p1 : d3 = 0
            · have p1b : (d3 == 0) = true := by rw [beq_iff_eq]; exact p1
              go_wp2_with fail
              refine (M25.out _).mono ?_
              rintro e V5 ⟨rfl, rfl⟩
              by_cases p2 : d5 < 2
              · go_upto_region 26 with fail
                obtain ⟨W7, hW7, hr7, hf7, hc7, hh7⟩ := hrm6.field hr6 3 (.string ⟨#[]⟩)
                rw [hW7]
                have hrm7 : Res w W7 m := ⟨hf7, hrm6.new, _, _, _, _, _, hr7⟩
                have hres7 := hres6.move hf7 (hh7 _ hgm)
                clear hW7 hf7 hc7 hh7
                obtain ⟨W8, hW8, hr8, hf8, hc8, hh8⟩ := hrm7.field hr7 4 (.string ⟨#[]⟩)
                rw [hW8]
                have hrm8 : Res w W8 m := ⟨hf8, hrm7.new, _, _, _, _, _, hr8⟩
                have hres8 := hres7.move hf8 (hh8 _ hgm)
                clear hW8 hf8 hc8 hh8
                have hrz : _ = some (Obj.cells #[.int .i64 l', .int .i64 h', .int .i64 c', .string ⟨#[]⟩, .string ⟨#[]⟩] 24 (0, 0)) := hr8
                clear k0 k1 k2 k3 k4 z0 z1 z2 z3 z4 e2
                obtain ⟨⟨k0, k1, k2, k3, k4⟩, -⟩ := row_facts hrz
                obtain ⟨u0, u1, u2, u3, u4, ⟨c0, c1, c2, c3, c4⟩, z0, z1, z2, z3, z4⟩ := hres8.facts
                have Hr := Lib.hid hres8
                clear hres8 hrz hr8 hrm8
                go_wp2_with fail
                exact Hr.out.ret Tryz.results23 rfl rfl fun W f => ⟨l', h', c', _, _, rfl, ⟨Hi.out.1, Hi.out.2.1, Hi.out.2.2, by decide, by decide⟩, f⟩
              · go_upto_region 26 with fail
                obtain ⟨W7, hW7, hr7, hf7, hc7, hh7⟩ := hrm6.field hr6 3 (.string ⟨#[]⟩)
                rw [hW7]
                have hrm7 : Res w W7 m := ⟨hf7, hrm6.new, _, _, _, _, _, hr7⟩
                have hres7 := hres6.move hf7 (hh7 _ hgm)
                clear hW7 hf7 hc7 hh7
                have hrz : _ = some (Obj.cells #[.int .i64 l', .int .i64 h', .int .i64 c', .string ⟨#[]⟩, .string s2] 24 (0, 0)) := hr7
                clear k0 k1 k2 k3 k4 z0 z1 z2 z3 z4 e2
                obtain ⟨⟨k0, k1, k2, k3, k4⟩, -⟩ := row_facts hrz
                obtain ⟨u0, u1, u2, u3, u4, ⟨c0, c1, c2, c3, c4⟩, z0, z1, z2, z3, z4⟩ := hres7.facts
                have Hr := Lib.hid hres7
                clear hres7 hrz hr7 hrm7
                go_wp2_with fail
                exact Hr.out.ret Tryz.results23 rfl rfl fun W f => ⟨l', h', c', _, _, rfl, ⟨Hi.out.1, Hi.out.2.1, Hi.out.2.2, by decide, by have := Hs2.out; omega⟩, f⟩
            · have p1b : (d3 == 0) = false := by rw [beq_eq_false_iff_ne]; exact p1
              go_wp2_with fail
              refine (M25.out _).mono ?_
              rintro e V5 ⟨rfl, rfl⟩
              by_cases p2 : d5 < 2
              · go_upto_region 26 with fail
                obtain ⟨W8, hW8, hr8, hf8, hc8, hh8⟩ := hrm6.field hr6 4 (.string ⟨#[]⟩)
                rw [hW8]
                have hrm8 : Res w W8 m := ⟨hf8, hrm6.new, _, _, _, _, _, hr8⟩
                have hres8 := hres6.move hf8 (hh8 _ hgm)
                clear hW8 hf8 hc8 hh8
                have hrz : _ = some (Obj.cells #[.int .i64 l', .int .i64 h', .int .i64 c', .string s1, .string ⟨#[]⟩] 24 (0, 0)) := hr8
                clear k0 k1 k2 k3 k4 z0 z1 z2 z3 z4 e2
                obtain ⟨⟨k0, k1, k2, k3, k4⟩, -⟩ := row_facts hrz
                obtain ⟨u0, u1, u2, u3, u4, ⟨c0, c1, c2, c3, c4⟩, z0, z1, z2, z3, z4⟩ := hres8.facts
                have Hr := Lib.hid hres8
                clear hres8 hrz hr8 hrm8
                go_wp2_with fail
                exact Hr.out.ret Tryz.results23 rfl rfl fun W f => ⟨l', h', c', _, _, rfl, ⟨Hi.out.1, Hi.out.2.1, Hi.out.2.2, by have := Hs1.out; omega, by decide⟩, f⟩
              · go_upto_region 26 with fail
                have hrz : _ = some (Obj.cells #[.int .i64 l', .int .i64 h', .int .i64 c', .string s1, .string s2] 24 (0, 0)) := hr6
                clear k0 k1 k2 k3 k4 z0 z1 z2 z3 z4 e2
                obtain ⟨⟨k0, k1, k2, k3, k4⟩, -⟩ := row_facts hrz
                obtain ⟨u0, u1, u2, u3, u4, ⟨c0, c1, c2, c3, c4⟩, z0, z1, z2, z3, z4⟩ := hres6.facts
                have Hr := Lib.hid hres6
                clear hres6 hrz hr6 hrm6
                go_wp2_with fail
                exact Hr.out.ret Tryz.results23 rfl rfl fun W f => ⟨l', h', c', _, _, rfl, ⟨Hi.out.1, Hi.out.2.1, Hi.out.2.2, by have := Hs1.out; omega, by have := Hs2.out; omega⟩, f⟩
end Go.Proofs.YtgnjakaamgeibaaGreatDoor
