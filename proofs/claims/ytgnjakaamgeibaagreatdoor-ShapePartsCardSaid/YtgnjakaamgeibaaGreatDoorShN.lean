/-
  shape.Join, shape.Within: what the code does. Conditions: the strings are short.
  shape.Meet, fixed, Concat: what the code does. Conditions: the strings are short.
  shape.fixed; shape.Concat of a fixed shape and one that is not. Conditions: the strings are short.
-/
import Derived.Test.YtgnjakaamgeibaaGreatDoorShC
namespace Go.Proofs.YtgnjakaamgeibaaGreatDoor
open Go.RowKit Go.Shelf
attribute [local go_sem] Oper.semAt_some
theorem cell_other {w : World} {x g i j : Nat} {v u : Value} (h : x ≠ g) (hc : w.cell? ⟨x, i, none⟩ = some v) : (w.setCell ⟨g, j, none⟩ u).cell? ⟨x, i, none⟩ = some v := by
  have hb : x < w.heap.size := World.block_lt_of_cell? w _ hc
  exact (World.cell?_of_block (w := w) (a := ⟨x, i, none⟩) (heap_setCell_other w ⟨g, j, none⟩ x u h)).trans hc
theorem Res.put {w0 w : World} {g : Nat} (h : Res w0 w g) (v0 v1 v2 v3 v4 : Value) : ∃ W, (((((w.setCell ⟨g, 0, none⟩ v0).setCell ⟨g, 1, none⟩ v1).setCell ⟨g, 2, none⟩ v2).setCell ⟨g, 3, none⟩ v3).setCell ⟨g, 4, none⟩ v4) = W ∧
    W.heap[g]? = some (.cells #[v0, v1, v2, v3, v4] 24 (0, 0)) ∧ Res w0 W g ∧ (∀ x i v, x ≠ g → w.cell? ⟨x, i, none⟩ = some v → W.cell? ⟨x, i, none⟩ = some v) := by
  obtain ⟨h1, h2⟩ := h.set v0 v1 v2 v3 v4
  exact ⟨_, rfl, h1, ⟨h2, h.new, _, _, _, _, _, h1⟩, fun x i v hx hc => cell_other hx (cell_other hx (cell_other hx (cell_other hx (cell_other hx hc))))⟩
theorem ret_row {fn : Func} {p : Tmp} (hfn : fn.results = #[.cell p 24]) {R : Ending → World → Prop} {a : Act} {w : World} {g : Nat} {v0 v1 v2 v3 v4 : Value} (hrow : w.heap[g]? = some (.cells #[v0, v1, v2, v3, v4] 24 (0, 0))) (ha : a.defers = []) (hp : a.tmps.getD p undef = .pointer (some ⟨g, 0, none⟩)) (hR : R (.returned (.agg #[v0, v1, v2, v3, v4])) w) : bodyPost Tryz.prog fn R .ret a w :=
  bodyPost_ret (results_cell_row hfn _ _ g 24 _ (0, 0) _ hp hrow Tryz.underlying24 rfl row_info24) ha hR
/-- Two boxes with shapes. -/
theorem two_sh (w : World) (l h c l' h' c' : Int) (b d b' d' : ByteArray) : ∃ W x y, (w.alloc (.cells #[.int .i64 l, .int .i64 h, .int .i64 c, .string b, .string d] 24)).alloc (.cells #[.int .i64 l', .int .i64 h', .int .i64 c', .string b', .string d'] 24) = W ∧ w.heap.size + 1 = y ∧ w.heap.size = x ∧ Frm (fun _ => False) w W ∧
    (W.cell? ⟨x, 0, none⟩ = some (.int .i64 l) ∧ W.cell? ⟨x, 1, none⟩ = some (.int .i64 h) ∧ W.cell? ⟨x, 2, none⟩ = some (.int .i64 c) ∧ W.cell? ⟨x, 3, none⟩ = some (.string b) ∧ W.cell? ⟨x, 4, none⟩ = some (.string d)) ∧
    (W.cell? ⟨y, 0, none⟩ = some (.int .i64 l') ∧ W.cell? ⟨y, 1, none⟩ = some (.int .i64 h') ∧ W.cell? ⟨y, 2, none⟩ = some (.int .i64 c') ∧ W.cell? ⟨y, 3, none⟩ = some (.string b') ∧ W.cell? ⟨y, 4, none⟩ = some (.string d')) := by
  obtain ⟨W1, x, hW, hx, hf, a0, a1, a2, a3, a4⟩ := one_sh w l h c b d
  obtain ⟨W2, y, hW2, hy, hf2, b0, b1, b2, b3, b4⟩ := one_sh W1 l' h' c' b' d'
  refine ⟨W2, x, y, by rw [hW, hW2], ?_, hx, hf.trans hf2, ⟨hf2.cell a0 (fun h => h), hf2.cell a1 (fun h => h), hf2.cell a2 (fun h => h), hf2.cell a3 (fun h => h), hf2.cell a4 (fun h => h)⟩, b0, b1, b2, b3, b4⟩
  rw [← hy, ← hW]
  simp
/-- Two boxes with shapes, and a block for a result. -/
theorem three_sh (w : World) (l h c l' h' c' : Int) (b d b' d' : ByteArray) : ∃ W x y g, ((w.alloc (.cells #[.int .i64 l, .int .i64 h, .int .i64 c, .string b, .string d] 24)).alloc (.cells #[.int .i64 l', .int .i64 h', .int .i64 c', .string b', .string d'] 24)).alloc (.cells #[.int .i64 0, .int .i64 0, .int .i64 0, .string ⟨#[]⟩, .string ⟨#[]⟩] 24) = W ∧ w.heap.size + 1 + 1 = g ∧ w.heap.size + 1 = y ∧ w.heap.size = x ∧ Frm (fun _ => False) w W ∧
    (W.cell? ⟨x, 0, none⟩ = some (.int .i64 l) ∧ W.cell? ⟨x, 1, none⟩ = some (.int .i64 h) ∧ W.cell? ⟨x, 2, none⟩ = some (.int .i64 c) ∧ W.cell? ⟨x, 3, none⟩ = some (.string b) ∧ W.cell? ⟨x, 4, none⟩ = some (.string d)) ∧
    (W.cell? ⟨y, 0, none⟩ = some (.int .i64 l') ∧ W.cell? ⟨y, 1, none⟩ = some (.int .i64 h') ∧ W.cell? ⟨y, 2, none⟩ = some (.int .i64 c') ∧ W.cell? ⟨y, 3, none⟩ = some (.string b') ∧ W.cell? ⟨y, 4, none⟩ = some (.string d')) ∧ Res w W g ∧ x ≠ g ∧ y ≠ g := by
  obtain ⟨W1, x, y, hW, hy, hx, hf, ⟨a0, a1, a2, a3, a4⟩, b0, b1, b2, b3, b4⟩ := two_sh w l h c l' h' c' b d b' d'
  have hr := Res.start w W1 hf
  have f := (Frm.refl (fun _ => False) W1).alloc (.cells #[.int .i64 0, .int .i64 0, .int .i64 0, .string ⟨#[]⟩, .string ⟨#[]⟩] 24)
  have hs : W1.heap.size = w.heap.size + 1 + 1 := by rw [← hW]; simp
  refine ⟨_, x, y, W1.heap.size, by rw [hW], hs.symm, hy, hx, hf.alloc _, ⟨f.cell a0 (fun h => h), f.cell a1 (fun h => h), f.cell a2 (fun h => h), f.cell a3 (fun h => h), f.cell a4 (fun h => h)⟩, ⟨f.cell b0 (fun h => h), f.cell b1 (fun h => h), f.cell b2 (fun h => h), f.cell b3 (fun h => h), f.cell b4 (fun h => h)⟩, hr, by omega, by omega⟩
theorem extc (b : ByteArray) (n : Nat) (h : n ≤ b.size) (W : World) : (Instr.slice 9 (.string b) none (some (.int .i64 (n : Int))) none).run Tryz.prog W = .ok (.string (b.extract 0 n)) W := by
  have := run_slice_string_h (P := Tryz.prog) (w := W) (t := 9) (s := b) Tryz.underlying9 .i64 (n : Int) (by omega) (by omega)
  rw [this, Int.toNat_natCast]
theorem exts (b : ByteArray) (n : Nat) (h : n ≤ b.size) (W : World) : (Instr.slice 9 (.string b) (some (.int .i64 (n : Int))) none none).run Tryz.prog W = .ok (.string (b.extract n b.size)) W := by
  have := run_slice_string_l (P := Tryz.prog) (w := W) (t := 9) (s := b) Tryz.underlying9 .i64 (n : Int) (by omega) (by omega)
  rw [this, Int.toNat_natCast]
set_option maxRecDepth 100000 in
set_option maxHeartbeats 4000000 in
theorem join_any (p q : Shp) (hp : p.bg.size ≤ 1000 ∧ p.en.size ≤ 1000) (hq : q.bg.size ≤ 1000 ∧ q.en.size ≤ 1000) (w : World) : Calls Tryz.prog 14 #[shV p, shV q] w fun e w' => e = .returned (shV (joinS p q)) ∧ Frm (fun _ => False) w w' := by
  have hlow := least_any p
  have hlow' := least_any q
  have hhigh := most_any p
  have hhigh' := most_any q
  have hown := own_any p
  have hown' := own_any q
  have hemp := emp_any p hp.1 hp.2
  have hemp' := emp_any q hq.1 hq.2
  have hnone := empty_any
  have hL0 : 0 ≤ lowS p ∧ 0 ≤ lowS q ∧ highS p ≤ 200 ∧ highS q ≤ 200 := by unfold lowS highS; omega
  have hpre := fun (W : World) => common_any W p.bg q.bg false (by omega) (by omega)
  have hsuf := fun (W : World) => common_any W p.en q.en true (by omega) (by omega)
  have hP1 := (cpre_le p.b q.b).1
  have hP2 := (csuf_le p.e q.e).1
  rw [show p.b.length = p.bg.size from size_list _] at hP1
  rw [show p.e.length = p.en.size from size_list _] at hP2
  have hJ : joinS p q = if empB p && empB q then none' else if empB p then q else if empB q then p else ⟨min (lowS p) (lowS q), max (highS p) (highS q), iOr (ownS p) (ownS q), p.bg.extract 0 (cpre p.b q.b), p.en.extract (p.en.size - csuf p.e q.e) p.en.size⟩ := rfl
  obtain ⟨R, hR⟩ : ∃ R, R = joinS p q := ⟨_, rfl⟩
  rw [← hR] at hJ ⊢
  clear hR
  rw [(prs_eq p.bg.data.toList q.bg.data.toList).1, show cpre p.bg.data.toList q.bg.data.toList = cpre p.b q.b from rfl] at hpre
  rw [(prs_eq p.en.data.toList q.en.data.toList).2, show csuf p.en.data.toList q.en.data.toList = csuf p.e q.e from rfl] at hsuf
  generalize cpre p.b q.b = P1 at *
  generalize csuf p.e q.e = P2 at *
  rw [← bits_or] at hJ
  obtain ⟨E, hE⟩ : ∃ E, E = empB p := ⟨_, rfl⟩
  obtain ⟨E', hE'⟩ : ∃ E, E = empB q := ⟨_, rfl⟩
  obtain ⟨L, hL⟩ : ∃ E, E = lowS p := ⟨_, rfl⟩
  obtain ⟨L', hL'⟩ : ∃ E, E = lowS q := ⟨_, rfl⟩
  obtain ⟨H, hH⟩ : ∃ E, E = highS p := ⟨_, rfl⟩
  obtain ⟨H', hH'⟩ : ∃ E, E = highS q := ⟨_, rfl⟩
  obtain ⟨O, hO⟩ : ∃ E, E = ownS p := ⟨_, rfl⟩
  obtain ⟨O', hO'⟩ : ∃ E, E = ownS q := ⟨_, rfl⟩
  rw [← hE] at hemp; rw [← hE'] at hemp'; rw [← hL] at hlow; rw [← hL'] at hlow'; rw [← hH] at hhigh; rw [← hH'] at hhigh'; rw [← hO] at hown; rw [← hO'] at hown'
  rw [← hE, ← hE', ← hL, ← hL', ← hH, ← hH', ← hO, ← hO'] at hJ
  rw [← hL, ← hL', ← hH, ← hH'] at hL0
  clear hE hE' hL hL' hH hH' hO hO'
  obtain ⟨l, h, c, b, d⟩ := p
  obtain ⟨l', h', c', b', d'⟩ := q
  unfold shV at *
  unfold none' at hnone
  simp only at hlow hlow' hhigh hhigh' hown hown' hemp hemp' hnone hp hq hJ ⊢
  have Hlow := Lib.hid hlow
  have Hlow' := Lib.hid hlow'
  have Hhigh := Lib.hid hhigh
  have Hhigh' := Lib.hid hhigh'
  have Hown := Lib.hid hown
  have Hown' := Lib.hid hown'
  have Hnone := Lib.hid hnone
  have HJ := Lib.hid hJ
  clear hlow hlow' hhigh hhigh' hown hown' hnone hJ
  have Hpre := Lib.hid hpre
  have Hsuf := Lib.hid hsuf
  clear hpre hsuf
  go_enter Tryz.func14, Tryz.ntmps14
  go_upto_region 1 with fail
  obtain ⟨W1, x, y, g, hW, hg, hy, hx, hf, ⟨a0, a1, a2, a3, a4⟩, ⟨b0, b1, b2, b3, b4⟩, hres, hnxg, hnyg⟩ := three_sh w l h c l' h' c' b d b' d'
  rw [hW, hg, hy, hx]
  have HF := Lib.hid hf
  clear hW hg hy hx hf
  cases E
  · have Hemp := Lib.hid hemp
    clear hemp
    go_wp2_with fail
    refine (Hemp.out _).mono ?_
    rintro e V1 ⟨rfl, f1⟩
    have a0 := f1.cell a0 (fun h => h)
    have a1 := f1.cell a1 (fun h => h)
    have a2 := f1.cell a2 (fun h => h)
    have a3 := f1.cell a3 (fun h => h)
    have a4 := f1.cell a4 (fun h => h)
    have b0 := f1.cell b0 (fun h => h)
    have b1 := f1.cell b1 (fun h => h)
    have b2 := f1.cell b2 (fun h => h)
    have b3 := f1.cell b3 (fun h => h)
    have b4 := f1.cell b4 (fun h => h)
    have hres := hres.still f1
    clear f1
    go_wp2_with fail
    refine (Hemp.out _).mono ?_
    rintro e V2 ⟨rfl, f2⟩
    have a0 := f2.cell a0 (fun h => h)
    have a1 := f2.cell a1 (fun h => h)
    have a2 := f2.cell a2 (fun h => h)
    have a3 := f2.cell a3 (fun h => h)
    have a4 := f2.cell a4 (fun h => h)
    have b0 := f2.cell b0 (fun h => h)
    have b1 := f2.cell b1 (fun h => h)
    have b2 := f2.cell b2 (fun h => h)
    have b3 := f2.cell b3 (fun h => h)
    have b4 := f2.cell b4 (fun h => h)
    have hres := hres.still f2
    clear f2
    cases E'
    · have Hemp' := Lib.hid hemp'
      clear hemp'
      go_wp2_with fail
      refine (Hemp'.out _).mono ?_
      rintro e V3 ⟨rfl, f3⟩
      have a0 := f3.cell a0 (fun h => h)
      have a1 := f3.cell a1 (fun h => h)
      have a2 := f3.cell a2 (fun h => h)
      have a3 := f3.cell a3 (fun h => h)
      have a4 := f3.cell a4 (fun h => h)
      have b0 := f3.cell b0 (fun h => h)
      have b1 := f3.cell b1 (fun h => h)
      have b2 := f3.cell b2 (fun h => h)
      have b3 := f3.cell b3 (fun h => h)
      have b4 := f3.cell b4 (fun h => h)
      have hres := hres.still f3
      clear f3
      simp only [Bool.and_self, Bool.false_eq_true, if_false] at HJ
      clear Hemp Hemp' HF
      have hs1 := extc b P1 hP1
      have hs2 := exts d (d.size - P2) (by omega)
      have w1 : IntKind.i64.wrap ((d.size : Int) - P2) = ((d.size - P2 : Nat) : Int) := by rw [show (d.size : Int) - P2 = ((d.size - P2 : Nat) : Int) by omega]; exact IntWalk.i64_in _ (by omega)
      have HF := Lib.hid hres.frm.drew
      have hres := hres.still (Frm.refl _ _).drew
      clear hP1 hP2
      go_upto_region 7 with fail
      refine wp_region_held_drew (S := fun w' => w'.cell? ⟨x, 0, none⟩ = some (.int .i64 (l)) ∧ w'.cell? ⟨x, 1, none⟩ = some (.int .i64 (h)) ∧ w'.cell? ⟨x, 2, none⟩ = some (.int .i64 (c)) ∧ w'.cell? ⟨x, 3, none⟩ = some (.string (b)) ∧ w'.cell? ⟨x, 4, none⟩ = some (.string (d)) ∧ w'.cell? ⟨y, 0, none⟩ = some (.int .i64 (l')) ∧ w'.cell? ⟨y, 1, none⟩ = some (.int .i64 (h')) ∧ w'.cell? ⟨y, 2, none⟩ = some (.int .i64 (c')) ∧ w'.cell? ⟨y, 3, none⟩ = some (.string (b')) ∧ w'.cell? ⟨y, 4, none⟩ = some (.string (d')) ∧ Res w w' g) (by kernel_rfl) ⟨a0, a1, a2, a3, a4, b0, b1, b2, b3, b4, hres⟩ (fun hHeld => ?_)
      refine wpAnyH_take (i := 0) (oi := ⟨some 21, _, _, _, _, _⟩) (v := (.agg #[.int .i64 (l), .int .i64 (h), .int .i64 (c), .string (b), .string (d)])) rfl (by kernel_rfl) (by kernel_rfl) (by kernel_rfl) (fun _ _ _ h => h) (.inl ⟨by rfl, fun w hw => by dsimp only at hw; go_simp⟩) hHeld ?_
      simp only [Act.put, List.setIfInBounds_toArray, List.set_cons_zero, List.set_cons_succ]
      refine wpAnyH_take (i := 2) (oi := ⟨some 23, _, _, _, _, _⟩) (v := (.agg #[.int .i64 (l'), .int .i64 (h'), .int .i64 (c'), .string (b'), .string (d')])) rfl (by kernel_rfl) (by kernel_rfl) (by kernel_rfl) (fun _ _ _ h => h) (.inl ⟨by rfl, fun w hw => by dsimp only at hw; go_simp⟩) hHeld ?_
      simp only [Act.put, List.setIfInBounds_toArray, List.set_cons_zero, List.set_cons_succ]
      refine wpAnyH_take (i := 5) (oi := ⟨some 26, _, _, _, _, _⟩) (v := (.agg #[.int .i64 (l), .int .i64 (h), .int .i64 (c), .string (b), .string (d)])) rfl (by kernel_rfl) (by kernel_rfl) (by kernel_rfl) (fun _ _ _ h => h) (.inl ⟨by rfl, fun w hw => by dsimp only at hw; go_simp⟩) hHeld ?_
      simp only [Act.put, List.setIfInBounds_toArray, List.set_cons_zero, List.set_cons_succ]
      refine wpAnyH_take (i := 7) (oi := ⟨some 28, _, _, _, _, _⟩) (v := (.agg #[.int .i64 (l'), .int .i64 (h'), .int .i64 (c'), .string (b'), .string (d')])) rfl (by kernel_rfl) (by kernel_rfl) (by kernel_rfl) (fun _ _ _ h => h) (.inl ⟨by rfl, fun w hw => by dsimp only at hw; go_simp⟩) hHeld ?_
      simp only [Act.put, List.setIfInBounds_toArray, List.set_cons_zero, List.set_cons_succ]
      refine wpAnyH_take (i := 10) (oi := ⟨some 31, _, _, _, _, _⟩) (v := (.agg #[.int .i64 (l), .int .i64 (h), .int .i64 (c), .string (b), .string (d)])) rfl (by kernel_rfl) (by kernel_rfl) (by kernel_rfl) (fun _ _ _ h => h) (.inl ⟨by rfl, fun w hw => by dsimp only at hw; go_simp⟩) hHeld ?_
      simp only [Act.put, List.setIfInBounds_toArray, List.set_cons_zero, List.set_cons_succ]
      refine wpAnyH_take (i := 12) (oi := ⟨some 33, _, _, _, _, _⟩) (v := (.agg #[.int .i64 (l'), .int .i64 (h'), .int .i64 (c'), .string (b'), .string (d')])) rfl (by kernel_rfl) (by kernel_rfl) (by kernel_rfl) (fun _ _ _ h => h) (.inl ⟨by rfl, fun w hw => by dsimp only at hw; go_simp⟩) hHeld ?_
      simp only [Act.put, List.setIfInBounds_toArray, List.set_cons_zero, List.set_cons_succ]
      refine wpAnyH_take (i := 15) (oi := ⟨some 36, _, _, _, _, _⟩) (v := (.pointer (some ⟨x, 3, none⟩))) rfl (by kernel_rfl) (by kernel_rfl) (by kernel_rfl) (fun _ _ _ h => h) (.inl ⟨by rfl, fun w hw => by dsimp only at hw; go_simp⟩) hHeld ?_
      simp only [Act.put, List.setIfInBounds_toArray, List.set_cons_zero, List.set_cons_succ]
      refine wpAnyH_take (i := 16) (oi := ⟨some 37, _, _, _, _, _⟩) (v := (.string (b))) rfl (by kernel_rfl) (by kernel_rfl) (by kernel_rfl) (fun _ _ _ h => h) (.inl ⟨by rfl, fun w hw => by dsimp only at hw; go_simp⟩) hHeld ?_
      simp only [Act.put, List.setIfInBounds_toArray, List.set_cons_zero, List.set_cons_succ]
      refine wpAnyH_take (i := 17) (oi := ⟨some 38, _, _, _, _, _⟩) (v := (.pointer (some ⟨x, 3, none⟩))) rfl (by kernel_rfl) (by kernel_rfl) (by kernel_rfl) (fun _ _ _ h => h) (.inl ⟨by rfl, fun w hw => by dsimp only at hw; go_simp⟩) hHeld ?_
      simp only [Act.put, List.setIfInBounds_toArray, List.set_cons_zero, List.set_cons_succ]
      refine wpAnyH_take (i := 18) (oi := ⟨some 39, _, _, _, _, _⟩) (v := (.string (b))) rfl (by kernel_rfl) (by kernel_rfl) (by kernel_rfl) (fun _ _ _ h => h) (.inl ⟨by rfl, fun w hw => by dsimp only at hw; go_simp⟩) hHeld ?_
      simp only [Act.put, List.setIfInBounds_toArray, List.set_cons_zero, List.set_cons_succ]
      refine wpAnyH_take (i := 19) (oi := ⟨some 40, _, _, _, _, _⟩) (v := (.pointer (some ⟨y, 3, none⟩))) rfl (by kernel_rfl) (by kernel_rfl) (by kernel_rfl) (fun _ _ _ h => h) (.inl ⟨by rfl, fun w hw => by dsimp only at hw; go_simp⟩) hHeld ?_
      simp only [Act.put, List.setIfInBounds_toArray, List.set_cons_zero, List.set_cons_succ]
      refine wpAnyH_take (i := 20) (oi := ⟨some 41, _, _, _, _, _⟩) (v := (.string (b'))) rfl (by kernel_rfl) (by kernel_rfl) (by kernel_rfl) (fun _ _ _ h => h) (.inl ⟨by rfl, fun w hw => by dsimp only at hw; go_simp⟩) hHeld ?_
      simp only [Act.put, List.setIfInBounds_toArray, List.set_cons_zero, List.set_cons_succ]
      refine wpAnyH_take (i := 23) (oi := ⟨some 44, _, _, _, _, _⟩) (v := (.pointer (some ⟨x, 4, none⟩))) rfl (by kernel_rfl) (by kernel_rfl) (by kernel_rfl) (fun _ _ _ h => h) (.inl ⟨by rfl, fun w hw => by dsimp only at hw; go_simp⟩) hHeld ?_
      simp only [Act.put, List.setIfInBounds_toArray, List.set_cons_zero, List.set_cons_succ]
      refine wpAnyH_take (i := 24) (oi := ⟨some 45, _, _, _, _, _⟩) (v := (.string (d))) rfl (by kernel_rfl) (by kernel_rfl) (by kernel_rfl) (fun _ _ _ h => h) (.inl ⟨by rfl, fun w hw => by dsimp only at hw; go_simp⟩) hHeld ?_
      simp only [Act.put, List.setIfInBounds_toArray, List.set_cons_zero, List.set_cons_succ]
      refine wpAnyH_take (i := 25) (oi := ⟨some 46, _, _, _, _, _⟩) (v := (.pointer (some ⟨x, 4, none⟩))) rfl (by kernel_rfl) (by kernel_rfl) (by kernel_rfl) (fun _ _ _ h => h) (.inl ⟨by rfl, fun w hw => by dsimp only at hw; go_simp⟩) hHeld ?_
      simp only [Act.put, List.setIfInBounds_toArray, List.set_cons_zero, List.set_cons_succ]
      refine wpAnyH_take (i := 26) (oi := ⟨some 47, _, _, _, _, _⟩) (v := (.string (d))) rfl (by kernel_rfl) (by kernel_rfl) (by kernel_rfl) (fun _ _ _ h => h) (.inl ⟨by rfl, fun w hw => by dsimp only at hw; go_simp⟩) hHeld ?_
      simp only [Act.put, List.setIfInBounds_toArray, List.set_cons_zero, List.set_cons_succ]
      refine wpAnyH_take (i := 27) (oi := ⟨some 48, _, _, _, _, _⟩) (v := (.int .i64 (((d).size : Int)))) rfl (by kernel_rfl) (by kernel_rfl) (by kernel_rfl) (fun _ _ _ h => h) (.inl ⟨by rfl, fun w hw => by dsimp only at hw; go_simp⟩) hHeld ?_
      simp only [Act.put, List.setIfInBounds_toArray, List.set_cons_zero, List.set_cons_succ]
      refine wpAnyH_take (i := 28) (oi := ⟨some 49, _, _, _, _, _⟩) (v := (.pointer (some ⟨x, 4, none⟩))) rfl (by kernel_rfl) (by kernel_rfl) (by kernel_rfl) (fun _ _ _ h => h) (.inl ⟨by rfl, fun w hw => by dsimp only at hw; go_simp⟩) hHeld ?_
      simp only [Act.put, List.setIfInBounds_toArray, List.set_cons_zero, List.set_cons_succ]
      refine wpAnyH_take (i := 29) (oi := ⟨some 50, _, _, _, _, _⟩) (v := (.string (d))) rfl (by kernel_rfl) (by kernel_rfl) (by kernel_rfl) (fun _ _ _ h => h) (.inl ⟨by rfl, fun w hw => by dsimp only at hw; go_simp⟩) hHeld ?_
      simp only [Act.put, List.setIfInBounds_toArray, List.set_cons_zero, List.set_cons_succ]
      refine wpAnyH_take (i := 30) (oi := ⟨some 51, _, _, _, _, _⟩) (v := (.pointer (some ⟨y, 4, none⟩))) rfl (by kernel_rfl) (by kernel_rfl) (by kernel_rfl) (fun _ _ _ h => h) (.inl ⟨by rfl, fun w hw => by dsimp only at hw; go_simp⟩) hHeld ?_
      simp only [Act.put, List.setIfInBounds_toArray, List.set_cons_zero, List.set_cons_succ]
      refine wpAnyH_take (i := 31) (oi := ⟨some 52, _, _, _, _, _⟩) (v := (.string (d'))) rfl (by kernel_rfl) (by kernel_rfl) (by kernel_rfl) (fun _ _ _ h => h) (.inl ⟨by rfl, fun w hw => by dsimp only at hw; go_simp⟩) hHeld ?_
      simp only [Act.put, List.setIfInBounds_toArray, List.set_cons_zero, List.set_cons_succ]
      refine wpAnyH_ready (rs := [1]) (by kernel_rfl) (by simp) ?_
      refine AllReadyH.cons (o := ⟨some 22, _, _, _, _, _⟩) rfl (fun K hK => ?_) AllReadyH.nil
      go_simp
      refine (Hlow.out _).mono ?_
      rintro e V1 ⟨rfl, f1⟩
      have HF1 := Lib.hid (HF.out.trans f1)
      refine hK.out _ _ ⟨f1.cell hHeld.1 (fun h => h), f1.cell hHeld.2.1 (fun h => h), f1.cell hHeld.2.2.1 (fun h => h), f1.cell hHeld.2.2.2.1 (fun h => h), f1.cell hHeld.2.2.2.2.1 (fun h => h), f1.cell hHeld.2.2.2.2.2.1 (fun h => h), f1.cell hHeld.2.2.2.2.2.2.1 (fun h => h), f1.cell hHeld.2.2.2.2.2.2.2.1 (fun h => h), f1.cell hHeld.2.2.2.2.2.2.2.2.1 (fun h => h), f1.cell hHeld.2.2.2.2.2.2.2.2.2.1 (fun h => h), hHeld.2.2.2.2.2.2.2.2.2.2.still f1⟩ (fun hHeld => ?_)
      clear hK K f1 HF
      refine wpAnyH_ready (rs := [3]) (by kernel_rfl) (by simp) ?_
      refine AllReadyH.cons (o := ⟨some 24, _, _, _, _, _⟩) rfl (fun K hK => ?_) AllReadyH.nil
      go_simp
      refine (Hlow'.out _).mono ?_
      rintro e V2 ⟨rfl, f2⟩
      have HF2 := Lib.hid (HF1.out.trans f2)
      refine hK.out _ _ ⟨f2.cell hHeld.1 (fun h => h), f2.cell hHeld.2.1 (fun h => h), f2.cell hHeld.2.2.1 (fun h => h), f2.cell hHeld.2.2.2.1 (fun h => h), f2.cell hHeld.2.2.2.2.1 (fun h => h), f2.cell hHeld.2.2.2.2.2.1 (fun h => h), f2.cell hHeld.2.2.2.2.2.2.1 (fun h => h), f2.cell hHeld.2.2.2.2.2.2.2.1 (fun h => h), f2.cell hHeld.2.2.2.2.2.2.2.2.1 (fun h => h), f2.cell hHeld.2.2.2.2.2.2.2.2.2.1 (fun h => h), hHeld.2.2.2.2.2.2.2.2.2.2.still f2⟩ (fun hHeld => ?_)
      clear hK K f2 HF1
      refine wpAnyH_take (i := 4) (oi := ⟨some 25, _, _, _, _, _⟩) (v := (.int .i64 (min (L : Int) (L' : Int)))) rfl (by kernel_rfl) (by kernel_rfl) (by kernel_rfl) (fun _ _ _ h => h) (.inl ⟨by rfl, fun w hw => by dsimp only at hw; go_simp⟩) hHeld ?_
      simp only [Act.put, List.setIfInBounds_toArray, List.set_cons_zero, List.set_cons_succ]
      refine wpAnyH_ready (rs := [6]) (by kernel_rfl) (by simp) ?_
      refine AllReadyH.cons (o := ⟨some 27, _, _, _, _, _⟩) rfl (fun K hK => ?_) AllReadyH.nil
      go_simp
      refine (Hhigh.out _).mono ?_
      rintro e V3 ⟨rfl, f3⟩
      have HF3 := Lib.hid (HF2.out.trans f3)
      refine hK.out _ _ ⟨f3.cell hHeld.1 (fun h => h), f3.cell hHeld.2.1 (fun h => h), f3.cell hHeld.2.2.1 (fun h => h), f3.cell hHeld.2.2.2.1 (fun h => h), f3.cell hHeld.2.2.2.2.1 (fun h => h), f3.cell hHeld.2.2.2.2.2.1 (fun h => h), f3.cell hHeld.2.2.2.2.2.2.1 (fun h => h), f3.cell hHeld.2.2.2.2.2.2.2.1 (fun h => h), f3.cell hHeld.2.2.2.2.2.2.2.2.1 (fun h => h), f3.cell hHeld.2.2.2.2.2.2.2.2.2.1 (fun h => h), hHeld.2.2.2.2.2.2.2.2.2.2.still f3⟩ (fun hHeld => ?_)
      clear hK K f3 HF2
      refine wpAnyH_ready (rs := [8]) (by kernel_rfl) (by simp) ?_
      refine AllReadyH.cons (o := ⟨some 29, _, _, _, _, _⟩) rfl (fun K hK => ?_) AllReadyH.nil
      go_simp
      refine (Hhigh'.out _).mono ?_
      rintro e V4 ⟨rfl, f4⟩
      have HF4 := Lib.hid (HF3.out.trans f4)
      refine hK.out _ _ ⟨f4.cell hHeld.1 (fun h => h), f4.cell hHeld.2.1 (fun h => h), f4.cell hHeld.2.2.1 (fun h => h), f4.cell hHeld.2.2.2.1 (fun h => h), f4.cell hHeld.2.2.2.2.1 (fun h => h), f4.cell hHeld.2.2.2.2.2.1 (fun h => h), f4.cell hHeld.2.2.2.2.2.2.1 (fun h => h), f4.cell hHeld.2.2.2.2.2.2.2.1 (fun h => h), f4.cell hHeld.2.2.2.2.2.2.2.2.1 (fun h => h), f4.cell hHeld.2.2.2.2.2.2.2.2.2.1 (fun h => h), hHeld.2.2.2.2.2.2.2.2.2.2.still f4⟩ (fun hHeld => ?_)
      clear hK K f4 HF3
      refine wpAnyH_take (i := 9) (oi := ⟨some 30, _, _, _, _, _⟩) (v := (.int .i64 (max (H : Int) (H' : Int)))) rfl (by kernel_rfl) (by kernel_rfl) (by kernel_rfl) (fun _ _ _ h => h) (.inl ⟨by rfl, fun w hw => by dsimp only at hw; go_simp⟩) hHeld ?_
      simp only [Act.put, List.setIfInBounds_toArray, List.set_cons_zero, List.set_cons_succ]
      refine wpAnyH_ready (rs := [11]) (by kernel_rfl) (by simp) ?_
      refine AllReadyH.cons (o := ⟨some 32, _, _, _, _, _⟩) rfl (fun K hK => ?_) AllReadyH.nil
      go_simp
      refine (Hown.out _).mono ?_
      rintro e V5 ⟨rfl, f5⟩
      have HF5 := Lib.hid (HF4.out.trans f5)
      refine hK.out _ _ ⟨f5.cell hHeld.1 (fun h => h), f5.cell hHeld.2.1 (fun h => h), f5.cell hHeld.2.2.1 (fun h => h), f5.cell hHeld.2.2.2.1 (fun h => h), f5.cell hHeld.2.2.2.2.1 (fun h => h), f5.cell hHeld.2.2.2.2.2.1 (fun h => h), f5.cell hHeld.2.2.2.2.2.2.1 (fun h => h), f5.cell hHeld.2.2.2.2.2.2.2.1 (fun h => h), f5.cell hHeld.2.2.2.2.2.2.2.2.1 (fun h => h), f5.cell hHeld.2.2.2.2.2.2.2.2.2.1 (fun h => h), hHeld.2.2.2.2.2.2.2.2.2.2.still f5⟩ (fun hHeld => ?_)
      clear hK K f5 HF4
      refine wpAnyH_ready (rs := [13]) (by kernel_rfl) (by simp) ?_
      refine AllReadyH.cons (o := ⟨some 34, _, _, _, _, _⟩) rfl (fun K hK => ?_) AllReadyH.nil
      go_simp
      refine (Hown'.out _).mono ?_
      rintro e V6 ⟨rfl, f6⟩
      have HF6 := Lib.hid (HF5.out.trans f6)
      refine hK.out _ _ ⟨f6.cell hHeld.1 (fun h => h), f6.cell hHeld.2.1 (fun h => h), f6.cell hHeld.2.2.1 (fun h => h), f6.cell hHeld.2.2.2.1 (fun h => h), f6.cell hHeld.2.2.2.2.1 (fun h => h), f6.cell hHeld.2.2.2.2.2.1 (fun h => h), f6.cell hHeld.2.2.2.2.2.2.1 (fun h => h), f6.cell hHeld.2.2.2.2.2.2.2.1 (fun h => h), f6.cell hHeld.2.2.2.2.2.2.2.2.1 (fun h => h), f6.cell hHeld.2.2.2.2.2.2.2.2.2.1 (fun h => h), hHeld.2.2.2.2.2.2.2.2.2.2.still f6⟩ (fun hHeld => ?_)
      clear hK K f6 HF5
      refine wpAnyH_take (i := 14) (oi := ⟨some 35, _, _, _, _, _⟩) (v := (.int .i64 (bits .or .i64 (O : Int) (O' : Int)))) rfl (by kernel_rfl) (by kernel_rfl) (by kernel_rfl) (fun _ _ _ h => h) (.inl ⟨by rfl, fun w hw => by dsimp only at hw; go_simp⟩) hHeld ?_
      simp only [Act.put, List.setIfInBounds_toArray, List.set_cons_zero, List.set_cons_succ]
      refine wpAnyH_ready (rs := [21]) (by kernel_rfl) (by simp) ?_
      refine AllReadyH.cons (o := ⟨some 42, _, _, _, _, _⟩) rfl (fun K hK => ?_) AllReadyH.nil
      go_simp
      refine (Hpre.out _).mono ?_
      rintro e V7 ⟨rfl, f7⟩
      have HF7 := Lib.hid (HF6.out.trans f7)
      refine hK.out _ _ ⟨f7.cell hHeld.1 (fun h => h), f7.cell hHeld.2.1 (fun h => h), f7.cell hHeld.2.2.1 (fun h => h), f7.cell hHeld.2.2.2.1 (fun h => h), f7.cell hHeld.2.2.2.2.1 (fun h => h), f7.cell hHeld.2.2.2.2.2.1 (fun h => h), f7.cell hHeld.2.2.2.2.2.2.1 (fun h => h), f7.cell hHeld.2.2.2.2.2.2.2.1 (fun h => h), f7.cell hHeld.2.2.2.2.2.2.2.2.1 (fun h => h), f7.cell hHeld.2.2.2.2.2.2.2.2.2.1 (fun h => h), hHeld.2.2.2.2.2.2.2.2.2.2.still f7⟩ (fun hHeld => ?_)
      clear hK K f7 HF6
      refine wpAnyH_take (i := 22) (oi := ⟨some 43, _, _, _, _, _⟩) (v := (.string (b.extract 0 P1))) rfl (by kernel_rfl) (by kernel_rfl) (by kernel_rfl) (fun _ _ _ h => h) (.inl ⟨by rfl, fun w hw => by dsimp only at hw; go_simp⟩) hHeld ?_
      simp only [Act.put, List.setIfInBounds_toArray, List.set_cons_zero, List.set_cons_succ]
      refine wpAnyH_ready (rs := [32]) (by kernel_rfl) (by simp) ?_
      refine AllReadyH.cons (o := ⟨some 53, _, _, _, _, _⟩) rfl (fun K hK => ?_) AllReadyH.nil
      go_simp
      refine (Hsuf.out _).mono ?_
      rintro e V8 ⟨rfl, f8⟩
      have HF8 := Lib.hid (HF7.out.trans f8)
      refine hK.out _ _ ⟨f8.cell hHeld.1 (fun h => h), f8.cell hHeld.2.1 (fun h => h), f8.cell hHeld.2.2.1 (fun h => h), f8.cell hHeld.2.2.2.1 (fun h => h), f8.cell hHeld.2.2.2.2.1 (fun h => h), f8.cell hHeld.2.2.2.2.2.1 (fun h => h), f8.cell hHeld.2.2.2.2.2.2.1 (fun h => h), f8.cell hHeld.2.2.2.2.2.2.2.1 (fun h => h), f8.cell hHeld.2.2.2.2.2.2.2.2.1 (fun h => h), f8.cell hHeld.2.2.2.2.2.2.2.2.2.1 (fun h => h), hHeld.2.2.2.2.2.2.2.2.2.2.still f8⟩ (fun hHeld => ?_)
      clear hK K f8 HF7
      refine wpAnyH_take (i := 33) (oi := ⟨some 54, _, _, _, _, _⟩) (v := (.int .i64 (((d.size - P2 : Nat) : Int)))) rfl (by kernel_rfl) (by kernel_rfl) (by kernel_rfl) (fun _ _ _ h => h) (.inl ⟨by rfl, fun w hw => by dsimp only at hw; go_simp⟩) hHeld ?_
      simp only [Act.put, List.setIfInBounds_toArray, List.set_cons_zero, List.set_cons_succ]
      refine wpAnyH_take (i := 34) (oi := ⟨some 55, _, _, _, _, _⟩) (v := (.string (d.extract (d.size - P2) d.size))) rfl (by kernel_rfl) (by kernel_rfl) (by kernel_rfl) (fun _ _ _ h => h) (.inl ⟨by rfl, fun w hw => by dsimp only at hw; go_simp⟩) hHeld ?_
      simp only [Act.put, List.setIfInBounds_toArray, List.set_cons_zero, List.set_cons_succ]
      refine wpAnyH_take (i := 35) (oi := ⟨some 56, _, _, _, _, _⟩) (v := (.agg #[.int .i64 (min (L : Int) (L' : Int)), .int .i64 (max (H : Int) (H' : Int)), .int .i64 (bits .or .i64 (O : Int) (O' : Int)), .string (b.extract 0 P1), .string (d.extract (d.size - P2) d.size)])) rfl (by kernel_rfl) (by kernel_rfl) (by kernel_rfl) (fun _ _ _ h => h) (.inl ⟨by rfl, fun w hw => by dsimp only at hw; go_simp⟩) hHeld ?_
      simp only [Act.put, List.setIfInBounds_toArray, List.set_cons_zero, List.set_cons_succ]
      refine wpAnyH_ready (rs := [36]) (by kernel_rfl) (by simp) ?_
      refine AllReadyH.cons (o := ⟨none, _, _, _, _, _⟩) rfl (fun K hK => ?_) AllReadyH.nil
      have hr9 := hHeld.2.2.2.2.2.2.2.2.2.2
      obtain ⟨u0, u1, u2, u3, u4, ⟨c0, c1, c2, c3, c4⟩, z0, z1, z2, z3, z4⟩ := hr9.facts
      go_simp
      clear c0 c1 c2 c3 c4 z0 z1 z2 z3 z4
      obtain ⟨V9, hV9, hrow9, hres9, hcell9⟩ := hr9.put (.int .i64 (min (L : Int) (L' : Int))) (.int .i64 (max (H : Int) (H' : Int))) (.int .i64 (bits .or .i64 (O : Int) (O' : Int))) (.string (b.extract 0 P1)) (.string (d.extract (d.size - P2) d.size))
      rw [hV9]
      clear hV9 hr9
      refine hK.out _ _ ⟨hcell9 _ _ _ hnxg hHeld.1, hcell9 _ _ _ hnxg hHeld.2.1, hcell9 _ _ _ hnxg hHeld.2.2.1, hcell9 _ _ _ hnxg hHeld.2.2.2.1, hcell9 _ _ _ hnxg hHeld.2.2.2.2.1, hcell9 _ _ _ hnyg hHeld.2.2.2.2.2.1, hcell9 _ _ _ hnyg hHeld.2.2.2.2.2.2.1, hcell9 _ _ _ hnyg hHeld.2.2.2.2.2.2.2.1, hcell9 _ _ _ hnyg hHeld.2.2.2.2.2.2.2.2.1, hcell9 _ _ _ hnyg hHeld.2.2.2.2.2.2.2.2.2.1, hres9⟩ (fun hHeld => ?_)
      clear hK K hcell9
      refine wpAnyH_done (by kernel_rfl) ?_ _
      go_wp2_with fail
      exact ret_row Tryz.results14 hrow9 rfl rfl ⟨by rw [HJ.out], hres9.frm⟩
    · have Hemp' := Lib.hid hemp'
      clear hemp'
      go_wp2_with fail
      refine (Hemp'.out _).mono ?_
      rintro e V3 ⟨rfl, f3⟩
      have a0 := f3.cell a0 (fun h => h)
      have a1 := f3.cell a1 (fun h => h)
      have a2 := f3.cell a2 (fun h => h)
      have a3 := f3.cell a3 (fun h => h)
      have a4 := f3.cell a4 (fun h => h)
      have b0 := f3.cell b0 (fun h => h)
      have b1 := f3.cell b1 (fun h => h)
      have b2 := f3.cell b2 (fun h => h)
      have b3 := f3.cell b3 (fun h => h)
      have b4 := f3.cell b4 (fun h => h)
      have hres := hres.still f3
      clear f3
      simp only [Bool.and_true, Bool.false_eq_true, if_false, if_true] at HJ
      clear Hemp Hemp' HF
      obtain ⟨u0, u1, u2, u3, u4, ⟨c0, c1, c2, c3, c4⟩, z0, z1, z2, z3, z4⟩ := hres.facts
      have Hr := Lib.hid hres
      clear hres
      go_wp2_with fail
      exact Hr.out.ret Tryz.results14 rfl rfl fun W f => ⟨by rw [HJ.out], f⟩
  · have Hemp := Lib.hid hemp
    clear hemp
    go_wp2_with fail
    refine (Hemp.out _).mono ?_
    rintro e V1 ⟨rfl, f1⟩
    have a0 := f1.cell a0 (fun h => h)
    have a1 := f1.cell a1 (fun h => h)
    have a2 := f1.cell a2 (fun h => h)
    have a3 := f1.cell a3 (fun h => h)
    have a4 := f1.cell a4 (fun h => h)
    have b0 := f1.cell b0 (fun h => h)
    have b1 := f1.cell b1 (fun h => h)
    have b2 := f1.cell b2 (fun h => h)
    have b3 := f1.cell b3 (fun h => h)
    have b4 := f1.cell b4 (fun h => h)
    have hres := hres.still f1
    clear f1
    cases E'
    · have Hemp' := Lib.hid hemp'
      clear hemp'
      go_wp2_with fail
      refine (Hemp'.out _).mono ?_
      rintro e V2 ⟨rfl, f2⟩
      have a0 := f2.cell a0 (fun h => h)
      have a1 := f2.cell a1 (fun h => h)
      have a2 := f2.cell a2 (fun h => h)
      have a3 := f2.cell a3 (fun h => h)
      have a4 := f2.cell a4 (fun h => h)
      have b0 := f2.cell b0 (fun h => h)
      have b1 := f2.cell b1 (fun h => h)
      have b2 := f2.cell b2 (fun h => h)
      have b3 := f2.cell b3 (fun h => h)
      have b4 := f2.cell b4 (fun h => h)
      have hres := hres.still f2
      clear f2
      go_wp2_with fail
      refine (Hemp.out _).mono ?_
      rintro e V3 ⟨rfl, f3⟩
      have a0 := f3.cell a0 (fun h => h)
      have a1 := f3.cell a1 (fun h => h)
      have a2 := f3.cell a2 (fun h => h)
      have a3 := f3.cell a3 (fun h => h)
      have a4 := f3.cell a4 (fun h => h)
      have b0 := f3.cell b0 (fun h => h)
      have b1 := f3.cell b1 (fun h => h)
      have b2 := f3.cell b2 (fun h => h)
      have b3 := f3.cell b3 (fun h => h)
      have b4 := f3.cell b4 (fun h => h)
      have hres := hres.still f3
      clear f3
      simp only [Bool.and_false, Bool.false_eq_true, if_false, if_true] at HJ
      clear Hemp Hemp' HF
      obtain ⟨u0, u1, u2, u3, u4, ⟨c0, c1, c2, c3, c4⟩, z0, z1, z2, z3, z4⟩ := hres.facts
      have Hr := Lib.hid hres
      clear hres
      go_wp2_with fail
      exact Hr.out.ret Tryz.results14 rfl rfl fun W f => ⟨by rw [HJ.out], f⟩
    · have Hemp' := Lib.hid hemp'
      clear hemp'
      go_wp2_with fail
      refine (Hemp'.out _).mono ?_
      rintro e V2 ⟨rfl, f2⟩
      have a0 := f2.cell a0 (fun h => h)
      have a1 := f2.cell a1 (fun h => h)
      have a2 := f2.cell a2 (fun h => h)
      have a3 := f2.cell a3 (fun h => h)
      have a4 := f2.cell a4 (fun h => h)
      have b0 := f2.cell b0 (fun h => h)
      have b1 := f2.cell b1 (fun h => h)
      have b2 := f2.cell b2 (fun h => h)
      have b3 := f2.cell b3 (fun h => h)
      have b4 := f2.cell b4 (fun h => h)
      have hres := hres.still f2
      clear f2
      simp only [Bool.and_self, if_true] at HJ
      go_wp2_with fail
      refine (Hnone.out _).mono ?_
      rintro e V3 ⟨rfl, f3⟩
      have a0 := f3.cell a0 (fun h => h)
      have a1 := f3.cell a1 (fun h => h)
      have a2 := f3.cell a2 (fun h => h)
      have a3 := f3.cell a3 (fun h => h)
      have a4 := f3.cell a4 (fun h => h)
      have b0 := f3.cell b0 (fun h => h)
      have b1 := f3.cell b1 (fun h => h)
      have b2 := f3.cell b2 (fun h => h)
      have b3 := f3.cell b3 (fun h => h)
      have b4 := f3.cell b4 (fun h => h)
      have hres := hres.still f3
      clear f3
      clear Hemp Hemp' HF
      obtain ⟨u0, u1, u2, u3, u4, ⟨c0, c1, c2, c3, c4⟩, z0, z1, z2, z3, z4⟩ := hres.facts
      have Hr := Lib.hid hres
      clear hres
      go_wp2_with fail
      exact Hr.out.ret Tryz.results14 rfl rfl fun W f => ⟨by rw [HJ.out]; rfl, f⟩
end Go.Proofs.YtgnjakaamgeibaaGreatDoor
namespace Go.Proofs.YtgnjakaamgeibaaGreatDoor
open Go.RowKit Go.Shelf
attribute [local go_sem] Oper.semAt_some
theorem Res.lt {w0 w : World} {g : Nat} (h : Res w0 w g) : g < w.heap.size := by
  obtain ⟨u0, u1, u2, u3, u4, hr⟩ := h.row
  exact (Array.getElem?_eq_some_iff.1 hr).1
theorem Res.move {w0 w W : World} {g : Nat} (h : Res w0 w g) (f : Frm (fun _ => False) w0 W) (hk : W.heap[g]? = w.heap[g]?) : Res w0 W g := by
  obtain ⟨u0, u1, u2, u3, u4, hr⟩ := h.row
  exact ⟨f, h.new, u0, u1, u2, u3, u4, hk.trans hr⟩
theorem Res.put2 {w0 w : World} {g : Nat} (h : Res w0 w g) (v0 v1 v2 v3 v4 : Value) : ∃ W, (((((w.setCell ⟨g, 0, none⟩ v0).setCell ⟨g, 1, none⟩ v1).setCell ⟨g, 2, none⟩ v2).setCell ⟨g, 3, none⟩ v3).setCell ⟨g, 4, none⟩ v4) = W ∧
    W.heap[g]? = some (.cells #[v0, v1, v2, v3, v4] 24 (0, 0)) ∧ Res w0 W g ∧ (∀ x i v, x ≠ g → w.cell? ⟨x, i, none⟩ = some v → W.cell? ⟨x, i, none⟩ = some v) ∧ (∀ k, k ≠ g → W.heap[k]? = w.heap[k]?) := by
  obtain ⟨W, hW, h1, h2, h3⟩ := h.put v0 v1 v2 v3 v4
  refine ⟨W, hW, h1, h2, h3, fun k hk => ?_⟩
  rw [← hW, heap_setCell_other _ _ _ _ hk, heap_setCell_other _ _ _ _ hk, heap_setCell_other _ _ _ _ hk, heap_setCell_other _ _ _ _ hk, heap_setCell_other _ _ _ _ hk]
theorem row_facts {w : World} {g : Nat} {v0 v1 v2 v3 v4 : Value} (h : w.heap[g]? = some (.cells #[v0, v1, v2, v3, v4] 24 (0, 0))) : (w.cell? ⟨g, 0, none⟩ = some v0 ∧ w.cell? ⟨g, 1, none⟩ = some v1 ∧ w.cell? ⟨g, 2, none⟩ = some v2 ∧ w.cell? ⟨g, 3, none⟩ = some v3 ∧ w.cell? ⟨g, 4, none⟩ = some v4) ∧ (w.frozen? ⟨g, 0, none⟩ = false ∧ w.frozen? ⟨g, 1, none⟩ = false ∧ w.frozen? ⟨g, 2, none⟩ = false ∧ w.frozen? ⟨g, 3, none⟩ = false ∧ w.frozen? ⟨g, 4, none⟩ = false) :=
  ⟨⟨by rw [cell_of_row _ _ _ _ _ _ h]; rfl, by rw [cell_of_row _ _ _ _ _ _ h]; rfl, by rw [cell_of_row _ _ _ _ _ _ h]; rfl, by rw [cell_of_row _ _ _ _ _ _ h]; rfl, by rw [cell_of_row _ _ _ _ _ _ h]; rfl⟩, frozen_of_row _ _ _ _ _ h, frozen_of_row _ _ _ _ _ h, frozen_of_row _ _ _ _ _ h, frozen_of_row _ _ _ _ _ h, frozen_of_row _ _ _ _ _ h⟩
/-- A field of a variable is set. -/
theorem Res.field {w0 w : World} {m : Nat} (hm : Res w0 w m) {v0 v1 v2 v3 v4 : Value} (hr : w.heap[m]? = some (.cells #[v0, v1, v2, v3, v4] 24 (0, 0))) (i : Nat) (v : Value) : ∃ W, w.setCell ⟨m, i, none⟩ v = W ∧ W.heap[m]? = some (.cells (#[v0, v1, v2, v3, v4].setIfInBounds i v) 24 (0, 0)) ∧ Frm (fun _ => False) w0 W ∧ (∀ x j u, x ≠ m → w.cell? ⟨x, j, none⟩ = some u → W.cell? ⟨x, j, none⟩ = some u) ∧ (∀ k, k ≠ m → W.heap[k]? = w.heap[k]?) :=
  ⟨_, rfl, heap_set hr v, hm.frm.setCell (.inr hm.new) v, fun _ _ _ hx hc => cell_other hx hc, fun _k hk => heap_setCell_other _ _ _ _ hk⟩
set_option maxRecDepth 100000 in
set_option maxHeartbeats 4000000 in
theorem meet_any (p q : Shp) (hp : p.bg.size ≤ 1000 ∧ p.en.size ≤ 1000) (hq : q.bg.size ≤ 1000 ∧ q.en.size ≤ 1000) (w : World) : Calls Tryz.prog 17 #[shV p, shV q] w fun e w' => e = .returned (shV (meetS p q)) ∧ Frm (fun _ => False) w w' := by
  have hlow := least_any p
  have hlow' := least_any q
  have hhigh := most_any p
  have hhigh' := most_any q
  have hown := own_any p
  have hown' := own_any q
  have hemp := emp_any p hp.1 hp.2
  have hemp' := emp_any q hq.1 hq.2
  have hnone := empty_any
  have hL0 : 0 ≤ lowS p ∧ 0 ≤ lowS q ∧ highS p ≤ 200 ∧ highS q ≤ 200 := by unfold lowS highS; omega
  have hp1 := fun m => pre_any m p.bg
  have hp2 := fun m => pre_any m q.bg
  have hs1 := fun (m : ByteArray) (hm : m.size ≤ 1000) => suf_any m p.en (by omega)
  have hs2 := fun (m : ByteArray) (hm : m.size ≤ 1000) => suf_any m q.en (by omega)
  have hem := fun (b e : ByteArray) (h1 : b.size ≤ 1000) (h2 : e.size ≤ 1000) => emp_any ⟨max (lowS p) (lowS q), min (highS p) (highS q), bits .and .i64 (ownS p) (ownS q), b, e⟩ h1 h2
  have hJ : ∀ mb me, mb = (if p.bg.size < q.bg.size then q.bg else p.bg) → me = (if p.en.size < q.en.size then q.en else p.en) → meetS p q = if empB p || empB q then none' else if !(p.bg.data.toList.isPrefixOf mb.data.toList) || !(q.bg.data.toList.isPrefixOf mb.data.toList) || !(p.en.data.toList.isSuffixOf me.data.toList) || !(q.en.data.toList.isSuffixOf me.data.toList) || empB ⟨max (lowS p) (lowS q), min (highS p) (highS q), bits .and .i64 (ownS p) (ownS q), mb, me⟩ then none' else ⟨max (lowS p) (lowS q), min (highS p) (highS q), bits .and .i64 (ownS p) (ownS q), mb, me⟩ := fun mb me e1 e2 => by
    rw [e1, e2, bits_and]
    rfl
  obtain ⟨R, hR⟩ : ∃ R, R = meetS p q := ⟨_, rfl⟩
  rw [← hR] at hJ ⊢
  clear hR
  obtain ⟨E, hE⟩ : ∃ E, E = empB p := ⟨_, rfl⟩
  obtain ⟨E', hE'⟩ : ∃ E, E = empB q := ⟨_, rfl⟩
  obtain ⟨L, hL⟩ : ∃ E, E = lowS p := ⟨_, rfl⟩
  obtain ⟨L', hL'⟩ : ∃ E, E = lowS q := ⟨_, rfl⟩
  obtain ⟨H, hH⟩ : ∃ E, E = highS p := ⟨_, rfl⟩
  obtain ⟨H', hH'⟩ : ∃ E, E = highS q := ⟨_, rfl⟩
  obtain ⟨O, hO⟩ : ∃ E, E = ownS p := ⟨_, rfl⟩
  obtain ⟨O', hO'⟩ : ∃ E, E = ownS q := ⟨_, rfl⟩
  rw [← hE] at hemp; rw [← hE'] at hemp'; rw [← hL] at hlow; rw [← hL'] at hlow'; rw [← hH] at hhigh; rw [← hH'] at hhigh'; rw [← hO] at hown; rw [← hO'] at hown'
  rw [← hE, ← hE', ← hL, ← hL', ← hH, ← hH', ← hO, ← hO'] at hJ
  rw [← hL, ← hL', ← hH, ← hH'] at hL0
  rw [← hL, ← hL', ← hH, ← hH', ← hO, ← hO'] at hem
  clear hE hE' hL hL' hH hH' hO hO'
  obtain ⟨l, h, c, b, d⟩ := p
  obtain ⟨l', h', c', b', d'⟩ := q
  unfold shV at *
  unfold none' at hnone
  simp only at hlow hlow' hhigh hhigh' hown hown' hemp hemp' hnone hp hq hJ ⊢
  have Hlow := Lib.hid hlow
  have Hlow' := Lib.hid hlow'
  have Hhigh := Lib.hid hhigh
  have Hhigh' := Lib.hid hhigh'
  have Hown := Lib.hid hown
  have Hown' := Lib.hid hown'
  have Hnone := Lib.hid hnone
  have HJ := Lib.hid hJ
  clear hlow hlow' hhigh hhigh' hown hown' hnone hJ
  have Hp1 := Lib.hid hp1
  have Hp2 := Lib.hid hp2
  have Hs1 := Lib.hid hs1
  have Hs2 := Lib.hid hs2
  have Hem := Lib.hid hem
  clear hp1 hp2 hs1 hs2 hem
  go_enter Tryz.func17, Tryz.ntmps17
  go_upto_region 1 with fail
  obtain ⟨W1, x, y, g, hW, hg, hy, hx, hf, ⟨a0, a1, a2, a3, a4⟩, ⟨b0, b1, b2, b3, b4⟩, hres, hnxg, hnyg⟩ := three_sh w l h c l' h' c' b d b' d'
  rw [hW, hg, hy, hx]
  clear hW hg hy hx hf
  cases E
  · have Hemp := Lib.hid hemp
    clear hemp
    go_wp2_with fail
    refine (Hemp.out _).mono ?_
    rintro e V1 ⟨rfl, f1⟩
    have a0 := f1.cell a0 (fun h => h)
    have a1 := f1.cell a1 (fun h => h)
    have a2 := f1.cell a2 (fun h => h)
    have a3 := f1.cell a3 (fun h => h)
    have a4 := f1.cell a4 (fun h => h)
    have b0 := f1.cell b0 (fun h => h)
    have b1 := f1.cell b1 (fun h => h)
    have b2 := f1.cell b2 (fun h => h)
    have b3 := f1.cell b3 (fun h => h)
    have b4 := f1.cell b4 (fun h => h)
    have hres := hres.still f1
    clear f1
    clear Hemp
    cases E'
    · have Hemp' := Lib.hid hemp'
      clear hemp'
      go_wp2_with fail
      refine (Hemp'.out _).mono ?_
      rintro e V2 ⟨rfl, f2⟩
      have a0 := f2.cell a0 (fun h => h)
      have a1 := f2.cell a1 (fun h => h)
      have a2 := f2.cell a2 (fun h => h)
      have a3 := f2.cell a3 (fun h => h)
      have a4 := f2.cell a4 (fun h => h)
      have b0 := f2.cell b0 (fun h => h)
      have b1 := f2.cell b1 (fun h => h)
      have b2 := f2.cell b2 (fun h => h)
      have b3 := f2.cell b3 (fun h => h)
      have b4 := f2.cell b4 (fun h => h)
      have hres := hres.still f2
      clear f2
      clear Hemp'
      simp only [Bool.or_self, Bool.false_eq_true, if_false] at HJ
      have HF := Lib.hid hres.frm.drew
      have hres := hres.still (Frm.refl _ _).drew
      go_upto_region 3 with fail
      go_cut [5] from 13 (fun s5 wx => ∃ m, s5 = .pointer (some ⟨m, 0, none⟩) ∧ wx.heap[m]? = some (.cells #[.int .i64 (max L L'), .int .i64 (min H H'), .int .i64 (bits .and .i64 O O'), .string b, .string d] 24 (0, 0)) ∧ (wx.cell? ⟨x, 3, none⟩ = some (.string b) ∧ wx.cell? ⟨x, 4, none⟩ = some (.string d) ∧ wx.cell? ⟨y, 3, none⟩ = some (.string b') ∧ wx.cell? ⟨y, 4, none⟩ = some (.string d')) ∧ Res w wx g ∧ Res w wx m ∧ x ≠ m ∧ y ≠ m ∧ g ≠ m)
      case first =>
        refine wp_region_held_drew (S := fun w' => w'.cell? ⟨x, 0, none⟩ = some (.int .i64 (l)) ∧ w'.cell? ⟨x, 1, none⟩ = some (.int .i64 (h)) ∧ w'.cell? ⟨x, 2, none⟩ = some (.int .i64 (c)) ∧ w'.cell? ⟨x, 3, none⟩ = some (.string (b)) ∧ w'.cell? ⟨x, 4, none⟩ = some (.string (d)) ∧ w'.cell? ⟨y, 0, none⟩ = some (.int .i64 (l')) ∧ w'.cell? ⟨y, 1, none⟩ = some (.int .i64 (h')) ∧ w'.cell? ⟨y, 2, none⟩ = some (.int .i64 (c')) ∧ w'.cell? ⟨y, 3, none⟩ = some (.string (b')) ∧ w'.cell? ⟨y, 4, none⟩ = some (.string (d')) ∧ Res w w' g) (by kernel_rfl) ⟨a0, a1, a2, a3, a4, b0, b1, b2, b3, b4, hres⟩ (fun hHeld => ?_)
        generalize V2.drew = V0 at *
        refine wpAnyH_take (i := 0) (oi := ⟨some 13, _, _, _, _, _⟩) (v := (.agg #[.int .i64 (l), .int .i64 (h), .int .i64 (c), .string (b), .string (d)])) rfl (by kernel_rfl) (by kernel_rfl) (by kernel_rfl) (fun _ _ _ h => h) (.inl ⟨by rfl, fun w hw => by dsimp only at hw; go_simp⟩) hHeld ?_
        simp only [Act.put, List.setIfInBounds_toArray, List.set_cons_zero, List.set_cons_succ]
        refine wpAnyH_take (i := 2) (oi := ⟨some 15, _, _, _, _, _⟩) (v := (.agg #[.int .i64 (l'), .int .i64 (h'), .int .i64 (c'), .string (b'), .string (d')])) rfl (by kernel_rfl) (by kernel_rfl) (by kernel_rfl) (fun _ _ _ h => h) (.inl ⟨by rfl, fun w hw => by dsimp only at hw; go_simp⟩) hHeld ?_
        simp only [Act.put, List.setIfInBounds_toArray, List.set_cons_zero, List.set_cons_succ]
        refine wpAnyH_take (i := 5) (oi := ⟨some 18, _, _, _, _, _⟩) (v := (.agg #[.int .i64 (l), .int .i64 (h), .int .i64 (c), .string (b), .string (d)])) rfl (by kernel_rfl) (by kernel_rfl) (by kernel_rfl) (fun _ _ _ h => h) (.inl ⟨by rfl, fun w hw => by dsimp only at hw; go_simp⟩) hHeld ?_
        simp only [Act.put, List.setIfInBounds_toArray, List.set_cons_zero, List.set_cons_succ]
        refine wpAnyH_take (i := 7) (oi := ⟨some 20, _, _, _, _, _⟩) (v := (.agg #[.int .i64 (l'), .int .i64 (h'), .int .i64 (c'), .string (b'), .string (d')])) rfl (by kernel_rfl) (by kernel_rfl) (by kernel_rfl) (fun _ _ _ h => h) (.inl ⟨by rfl, fun w hw => by dsimp only at hw; go_simp⟩) hHeld ?_
        simp only [Act.put, List.setIfInBounds_toArray, List.set_cons_zero, List.set_cons_succ]
        refine wpAnyH_take (i := 10) (oi := ⟨some 23, _, _, _, _, _⟩) (v := (.agg #[.int .i64 (l), .int .i64 (h), .int .i64 (c), .string (b), .string (d)])) rfl (by kernel_rfl) (by kernel_rfl) (by kernel_rfl) (fun _ _ _ h => h) (.inl ⟨by rfl, fun w hw => by dsimp only at hw; go_simp⟩) hHeld ?_
        simp only [Act.put, List.setIfInBounds_toArray, List.set_cons_zero, List.set_cons_succ]
        refine wpAnyH_take (i := 12) (oi := ⟨some 25, _, _, _, _, _⟩) (v := (.agg #[.int .i64 (l'), .int .i64 (h'), .int .i64 (c'), .string (b'), .string (d')])) rfl (by kernel_rfl) (by kernel_rfl) (by kernel_rfl) (fun _ _ _ h => h) (.inl ⟨by rfl, fun w hw => by dsimp only at hw; go_simp⟩) hHeld ?_
        simp only [Act.put, List.setIfInBounds_toArray, List.set_cons_zero, List.set_cons_succ]
        refine wpAnyH_take (i := 15) (oi := ⟨some 28, _, _, _, _, _⟩) (v := (.pointer (some ⟨x, 3, none⟩))) rfl (by kernel_rfl) (by kernel_rfl) (by kernel_rfl) (fun _ _ _ h => h) (.inl ⟨by rfl, fun w hw => by dsimp only at hw; go_simp⟩) hHeld ?_
        simp only [Act.put, List.setIfInBounds_toArray, List.set_cons_zero, List.set_cons_succ]
        refine wpAnyH_take (i := 16) (oi := ⟨some 29, _, _, _, _, _⟩) (v := (.string (b))) rfl (by kernel_rfl) (by kernel_rfl) (by kernel_rfl) (fun _ _ _ h => h) (.inl ⟨by rfl, fun w hw => by dsimp only at hw; go_simp⟩) hHeld ?_
        simp only [Act.put, List.setIfInBounds_toArray, List.set_cons_zero, List.set_cons_succ]
        refine wpAnyH_take (i := 17) (oi := ⟨some 30, _, _, _, _, _⟩) (v := (.pointer (some ⟨x, 4, none⟩))) rfl (by kernel_rfl) (by kernel_rfl) (by kernel_rfl) (fun _ _ _ h => h) (.inl ⟨by rfl, fun w hw => by dsimp only at hw; go_simp⟩) hHeld ?_
        simp only [Act.put, List.setIfInBounds_toArray, List.set_cons_zero, List.set_cons_succ]
        refine wpAnyH_take (i := 18) (oi := ⟨some 31, _, _, _, _, _⟩) (v := (.string (d))) rfl (by kernel_rfl) (by kernel_rfl) (by kernel_rfl) (fun _ _ _ h => h) (.inl ⟨by rfl, fun w hw => by dsimp only at hw; go_simp⟩) hHeld ?_
        simp only [Act.put, List.setIfInBounds_toArray, List.set_cons_zero, List.set_cons_succ]
        refine wpAnyH_ready (rs := [1, 20]) (by kernel_rfl) (by simp) ?_
        refine AllReadyH.cons (o := ⟨some 14, _, _, _, _, _⟩) rfl (fun K hK => ?_) (AllReadyH.cons (o := ⟨some 5, _, _, _, _, _⟩) rfl (fun K hK => ?_) AllReadyH.nil)
        · skip
          go_simp
          refine (Hlow.out _).mono ?_
          rintro e V1 ⟨rfl, f1⟩
          have HF1 := Lib.hid (HF.out.trans f1)
          refine hK.out _ _ ⟨f1.cell hHeld.1 (fun h => h), f1.cell hHeld.2.1 (fun h => h), f1.cell hHeld.2.2.1 (fun h => h), f1.cell hHeld.2.2.2.1 (fun h => h), f1.cell hHeld.2.2.2.2.1 (fun h => h), f1.cell hHeld.2.2.2.2.2.1 (fun h => h), f1.cell hHeld.2.2.2.2.2.2.1 (fun h => h), f1.cell hHeld.2.2.2.2.2.2.2.1 (fun h => h), f1.cell hHeld.2.2.2.2.2.2.2.2.1 (fun h => h), f1.cell hHeld.2.2.2.2.2.2.2.2.2.1 (fun h => h), hHeld.2.2.2.2.2.2.2.2.2.2.still f1⟩ (fun hHeld => ?_)
          clear hK K f1 HF
          refine wpAnyH_ready (rs := [3, 20]) (by kernel_rfl) (by simp) ?_
          refine AllReadyH.cons (o := ⟨some 16, _, _, _, _, _⟩) rfl (fun K hK => ?_) (AllReadyH.cons (o := ⟨some 5, _, _, _, _, _⟩) rfl (fun K hK => ?_) AllReadyH.nil)
          · skip
            go_simp
            refine (Hlow'.out _).mono ?_
            rintro e V2 ⟨rfl, f2⟩
            have HF2 := Lib.hid (HF1.out.trans f2)
            refine hK.out _ _ ⟨f2.cell hHeld.1 (fun h => h), f2.cell hHeld.2.1 (fun h => h), f2.cell hHeld.2.2.1 (fun h => h), f2.cell hHeld.2.2.2.1 (fun h => h), f2.cell hHeld.2.2.2.2.1 (fun h => h), f2.cell hHeld.2.2.2.2.2.1 (fun h => h), f2.cell hHeld.2.2.2.2.2.2.1 (fun h => h), f2.cell hHeld.2.2.2.2.2.2.2.1 (fun h => h), f2.cell hHeld.2.2.2.2.2.2.2.2.1 (fun h => h), f2.cell hHeld.2.2.2.2.2.2.2.2.2.1 (fun h => h), hHeld.2.2.2.2.2.2.2.2.2.2.still f2⟩ (fun hHeld => ?_)
            clear hK K f2 HF1
            refine wpAnyH_take (i := 4) (oi := ⟨some 17, _, _, _, _, _⟩) (v := (.int .i64 (max (L : Int) (L' : Int)))) rfl (by kernel_rfl) (by kernel_rfl) (by kernel_rfl) (fun _ _ _ h => h) (.inl ⟨by rfl, fun w hw => by dsimp only at hw; go_simp⟩) hHeld ?_
            simp only [Act.put, List.setIfInBounds_toArray, List.set_cons_zero, List.set_cons_succ]
            refine wpAnyH_ready (rs := [6, 20]) (by kernel_rfl) (by simp) ?_
            refine AllReadyH.cons (o := ⟨some 19, _, _, _, _, _⟩) rfl (fun K hK => ?_) (AllReadyH.cons (o := ⟨some 5, _, _, _, _, _⟩) rfl (fun K hK => ?_) AllReadyH.nil)
            · skip
              go_simp
              refine (Hhigh.out _).mono ?_
              rintro e V3 ⟨rfl, f3⟩
              have HF3 := Lib.hid (HF2.out.trans f3)
              refine hK.out _ _ ⟨f3.cell hHeld.1 (fun h => h), f3.cell hHeld.2.1 (fun h => h), f3.cell hHeld.2.2.1 (fun h => h), f3.cell hHeld.2.2.2.1 (fun h => h), f3.cell hHeld.2.2.2.2.1 (fun h => h), f3.cell hHeld.2.2.2.2.2.1 (fun h => h), f3.cell hHeld.2.2.2.2.2.2.1 (fun h => h), f3.cell hHeld.2.2.2.2.2.2.2.1 (fun h => h), f3.cell hHeld.2.2.2.2.2.2.2.2.1 (fun h => h), f3.cell hHeld.2.2.2.2.2.2.2.2.2.1 (fun h => h), hHeld.2.2.2.2.2.2.2.2.2.2.still f3⟩ (fun hHeld => ?_)
              clear hK K f3 HF2
              refine wpAnyH_ready (rs := [8, 20]) (by kernel_rfl) (by simp) ?_
              refine AllReadyH.cons (o := ⟨some 21, _, _, _, _, _⟩) rfl (fun K hK => ?_) (AllReadyH.cons (o := ⟨some 5, _, _, _, _, _⟩) rfl (fun K hK => ?_) AllReadyH.nil)
              · skip
                go_simp
                refine (Hhigh'.out _).mono ?_
                rintro e V4 ⟨rfl, f4⟩
                have HF4 := Lib.hid (HF3.out.trans f4)
                refine hK.out _ _ ⟨f4.cell hHeld.1 (fun h => h), f4.cell hHeld.2.1 (fun h => h), f4.cell hHeld.2.2.1 (fun h => h), f4.cell hHeld.2.2.2.1 (fun h => h), f4.cell hHeld.2.2.2.2.1 (fun h => h), f4.cell hHeld.2.2.2.2.2.1 (fun h => h), f4.cell hHeld.2.2.2.2.2.2.1 (fun h => h), f4.cell hHeld.2.2.2.2.2.2.2.1 (fun h => h), f4.cell hHeld.2.2.2.2.2.2.2.2.1 (fun h => h), f4.cell hHeld.2.2.2.2.2.2.2.2.2.1 (fun h => h), hHeld.2.2.2.2.2.2.2.2.2.2.still f4⟩ (fun hHeld => ?_)
                clear hK K f4 HF3
                refine wpAnyH_take (i := 9) (oi := ⟨some 22, _, _, _, _, _⟩) (v := (.int .i64 (min (H : Int) (H' : Int)))) rfl (by kernel_rfl) (by kernel_rfl) (by kernel_rfl) (fun _ _ _ h => h) (.inl ⟨by rfl, fun w hw => by dsimp only at hw; go_simp⟩) hHeld ?_
                simp only [Act.put, List.setIfInBounds_toArray, List.set_cons_zero, List.set_cons_succ]
                refine wpAnyH_ready (rs := [11, 20]) (by kernel_rfl) (by simp) ?_
                refine AllReadyH.cons (o := ⟨some 24, _, _, _, _, _⟩) rfl (fun K hK => ?_) (AllReadyH.cons (o := ⟨some 5, _, _, _, _, _⟩) rfl (fun K hK => ?_) AllReadyH.nil)
                · skip
                  go_simp
                  refine (Hown.out _).mono ?_
                  rintro e V5 ⟨rfl, f5⟩
                  have HF5 := Lib.hid (HF4.out.trans f5)
                  refine hK.out _ _ ⟨f5.cell hHeld.1 (fun h => h), f5.cell hHeld.2.1 (fun h => h), f5.cell hHeld.2.2.1 (fun h => h), f5.cell hHeld.2.2.2.1 (fun h => h), f5.cell hHeld.2.2.2.2.1 (fun h => h), f5.cell hHeld.2.2.2.2.2.1 (fun h => h), f5.cell hHeld.2.2.2.2.2.2.1 (fun h => h), f5.cell hHeld.2.2.2.2.2.2.2.1 (fun h => h), f5.cell hHeld.2.2.2.2.2.2.2.2.1 (fun h => h), f5.cell hHeld.2.2.2.2.2.2.2.2.2.1 (fun h => h), hHeld.2.2.2.2.2.2.2.2.2.2.still f5⟩ (fun hHeld => ?_)
                  clear hK K f5 HF4
                  refine wpAnyH_ready (rs := [13, 20]) (by kernel_rfl) (by simp) ?_
                  refine AllReadyH.cons (o := ⟨some 26, _, _, _, _, _⟩) rfl (fun K hK => ?_) (AllReadyH.cons (o := ⟨some 5, _, _, _, _, _⟩) rfl (fun K hK => ?_) AllReadyH.nil)
                  · skip
                    go_simp
                    refine (Hown'.out _).mono ?_
                    rintro e V6 ⟨rfl, f6⟩
                    have HF6 := Lib.hid (HF5.out.trans f6)
                    refine hK.out _ _ ⟨f6.cell hHeld.1 (fun h => h), f6.cell hHeld.2.1 (fun h => h), f6.cell hHeld.2.2.1 (fun h => h), f6.cell hHeld.2.2.2.1 (fun h => h), f6.cell hHeld.2.2.2.2.1 (fun h => h), f6.cell hHeld.2.2.2.2.2.1 (fun h => h), f6.cell hHeld.2.2.2.2.2.2.1 (fun h => h), f6.cell hHeld.2.2.2.2.2.2.2.1 (fun h => h), f6.cell hHeld.2.2.2.2.2.2.2.2.1 (fun h => h), f6.cell hHeld.2.2.2.2.2.2.2.2.2.1 (fun h => h), hHeld.2.2.2.2.2.2.2.2.2.2.still f6⟩ (fun hHeld => ?_)
                    clear hK K f6 HF5
                    refine wpAnyH_take (i := 14) (oi := ⟨some 27, _, _, _, _, _⟩) (v := (.int .i64 (bits .and .i64 (O : Int) (O' : Int)))) rfl (by kernel_rfl) (by kernel_rfl) (by kernel_rfl) (fun _ _ _ h => h) (.inl ⟨by rfl, fun w hw => by dsimp only at hw; go_simp⟩) hHeld ?_
                    simp only [Act.put, List.setIfInBounds_toArray, List.set_cons_zero, List.set_cons_succ]
                    refine wpAnyH_take (i := 19) (oi := ⟨some 32, _, _, _, _, _⟩) (v := (.agg #[.int .i64 (max (L : Int) (L' : Int)), .int .i64 (min (H : Int) (H' : Int)), .int .i64 (bits .and .i64 (O : Int) (O' : Int)), .string (b), .string (d)])) rfl (by kernel_rfl) (by kernel_rfl) (by kernel_rfl) (fun _ _ _ h => h) (.inl ⟨by rfl, fun w hw => by dsimp only at hw; go_simp⟩) hHeld ?_
                    simp only [Act.put, List.setIfInBounds_toArray, List.set_cons_zero, List.set_cons_succ]
                    refine wpAnyH_ready (rs := [20]) (by kernel_rfl) (by simp) ?_
                    refine AllReadyH.cons (o := ⟨some 5, _, _, _, _, _⟩) rfl (fun K hK => ?_) AllReadyH.nil
                    go_simp
                    have hrm := Res.start w _ HF6.out
                    have f7 := (Frm.refl (fun _ => False) V6).alloc (.cells #[.int .i64 0, .int .i64 0, .int .i64 0, .string ⟨#[]⟩, .string ⟨#[]⟩] 24)
                    have hnxm : x ≠ V6.heap.size := fun e => by have := World.block_lt_of_cell? _ _ hHeld.1; simp only at this; omega
                    have hnym : y ≠ V6.heap.size := fun e => by have := World.block_lt_of_cell? _ _ hHeld.2.2.2.2.2.1; simp only at this; omega
                    have hngm : g ≠ V6.heap.size := fun e => by have := (hHeld.2.2.2.2.2.2.2.2.2.2).lt; omega
                    obtain ⟨V7, hV7⟩ : ∃ V, V = V6.alloc (.cells #[.int .i64 0, .int .i64 0, .int .i64 0, .string ⟨#[]⟩, .string ⟨#[]⟩] 24) := ⟨_, rfl⟩
                    obtain ⟨m, hm7⟩ : ∃ m, m = V6.heap.size := ⟨_, rfl⟩
                    rw [← hV7, ← hm7] at hrm
                    rw [← hV7] at f7
                    rw [← hm7] at hnxm hnym hngm
                    rw [← hV7, ← hm7]
                    clear hV7 hm7
                    have HF7 := Lib.hid (HF6.out.trans f7)
                    refine hK.out _ _ ⟨f7.cell hHeld.1 (fun h => h), f7.cell hHeld.2.1 (fun h => h), f7.cell hHeld.2.2.1 (fun h => h), f7.cell hHeld.2.2.2.1 (fun h => h), f7.cell hHeld.2.2.2.2.1 (fun h => h), f7.cell hHeld.2.2.2.2.2.1 (fun h => h), f7.cell hHeld.2.2.2.2.2.2.1 (fun h => h), f7.cell hHeld.2.2.2.2.2.2.2.1 (fun h => h), f7.cell hHeld.2.2.2.2.2.2.2.2.1 (fun h => h), f7.cell hHeld.2.2.2.2.2.2.2.2.2.1 (fun h => h), hHeld.2.2.2.2.2.2.2.2.2.2.still f7⟩ (fun hHeld => ?_)
                    clear hK K f7 HF6
                    refine wpAnyH_ready (rs := [21]) (by kernel_rfl) (by simp) ?_
                    refine AllReadyH.cons (o := ⟨none, _, _, _, _, _⟩) rfl (fun K hK => ?_) AllReadyH.nil
                    have hr8 := hrm
                    obtain ⟨u0, u1, u2, u3, u4, ⟨c0, c1, c2, c3, c4⟩, z0, z1, z2, z3, z4⟩ := hr8.facts
                    go_simp
                    clear c0 c1 c2 c3 c4 z0 z1 z2 z3 z4
                    obtain ⟨V8, hV8, hrow8, hres8, hcell8, hheap8⟩ := hr8.put2 (.int .i64 (max (L : Int) (L' : Int))) (.int .i64 (min (H : Int) (H' : Int))) (.int .i64 (bits .and .i64 (O : Int) (O' : Int))) (.string (b)) (.string (d))
                    rw [hV8]
                    clear hV8 hr8
                    refine hK.out _ _ ⟨hcell8 _ _ _ hnxm hHeld.1, hcell8 _ _ _ hnxm hHeld.2.1, hcell8 _ _ _ hnxm hHeld.2.2.1, hcell8 _ _ _ hnxm hHeld.2.2.2.1, hcell8 _ _ _ hnxm hHeld.2.2.2.2.1, hcell8 _ _ _ hnym hHeld.2.2.2.2.2.1, hcell8 _ _ _ hnym hHeld.2.2.2.2.2.2.1, hcell8 _ _ _ hnym hHeld.2.2.2.2.2.2.2.1, hcell8 _ _ _ hnym hHeld.2.2.2.2.2.2.2.2.1, hcell8 _ _ _ hnym hHeld.2.2.2.2.2.2.2.2.2.1, (hHeld.2.2.2.2.2.2.2.2.2.2).move hres8.frm (hheap8 _ hngm)⟩ (fun hHeld => ?_)
                    clear hK K hcell8
                    refine wpAnyH_done (by kernel_rfl) ?_ _
                    obtain ⟨a0, a1, a2, a3, a4, b0, b1, b2, b3, b4, hres⟩ := hHeld
                    go_wp2_with fail
                    go_meet
                    case rel => exact ⟨m, rfl, hrow8, ⟨a3, a4, b3, b4⟩, hres, hres8, hnxm, hnym, hngm⟩
                  · skip
                    go_simp
                    have hrm := Res.start w _ HF5.out
                    have f6 := (Frm.refl (fun _ => False) V5).alloc (.cells #[.int .i64 0, .int .i64 0, .int .i64 0, .string ⟨#[]⟩, .string ⟨#[]⟩] 24)
                    have hnxm : x ≠ V5.heap.size := fun e => by have := World.block_lt_of_cell? _ _ hHeld.1; simp only at this; omega
                    have hnym : y ≠ V5.heap.size := fun e => by have := World.block_lt_of_cell? _ _ hHeld.2.2.2.2.2.1; simp only at this; omega
                    have hngm : g ≠ V5.heap.size := fun e => by have := (hHeld.2.2.2.2.2.2.2.2.2.2).lt; omega
                    obtain ⟨V6, hV6⟩ : ∃ V, V = V5.alloc (.cells #[.int .i64 0, .int .i64 0, .int .i64 0, .string ⟨#[]⟩, .string ⟨#[]⟩] 24) := ⟨_, rfl⟩
                    obtain ⟨m, hm6⟩ : ∃ m, m = V5.heap.size := ⟨_, rfl⟩
                    rw [← hV6, ← hm6] at hrm
                    rw [← hV6] at f6
                    rw [← hm6] at hnxm hnym hngm
                    rw [← hV6, ← hm6]
                    clear hV6 hm6
                    have HF6 := Lib.hid (HF5.out.trans f6)
                    refine hK.out _ _ ⟨f6.cell hHeld.1 (fun h => h), f6.cell hHeld.2.1 (fun h => h), f6.cell hHeld.2.2.1 (fun h => h), f6.cell hHeld.2.2.2.1 (fun h => h), f6.cell hHeld.2.2.2.2.1 (fun h => h), f6.cell hHeld.2.2.2.2.2.1 (fun h => h), f6.cell hHeld.2.2.2.2.2.2.1 (fun h => h), f6.cell hHeld.2.2.2.2.2.2.2.1 (fun h => h), f6.cell hHeld.2.2.2.2.2.2.2.2.1 (fun h => h), f6.cell hHeld.2.2.2.2.2.2.2.2.2.1 (fun h => h), hHeld.2.2.2.2.2.2.2.2.2.2.still f6⟩ (fun hHeld => ?_)
                    clear hK K f6 HF5
                    refine wpAnyH_ready (rs := [13]) (by kernel_rfl) (by simp) ?_
                    refine AllReadyH.cons (o := ⟨some 26, _, _, _, _, _⟩) rfl (fun K hK => ?_) AllReadyH.nil
                    go_simp
                    refine (Hown'.out _).mono ?_
                    rintro e V7 ⟨rfl, f7⟩
                    have HF7 := Lib.hid (HF6.out.trans f7)
                    have hrm := hrm.still f7
                    refine hK.out _ _ ⟨f7.cell hHeld.1 (fun h => h), f7.cell hHeld.2.1 (fun h => h), f7.cell hHeld.2.2.1 (fun h => h), f7.cell hHeld.2.2.2.1 (fun h => h), f7.cell hHeld.2.2.2.2.1 (fun h => h), f7.cell hHeld.2.2.2.2.2.1 (fun h => h), f7.cell hHeld.2.2.2.2.2.2.1 (fun h => h), f7.cell hHeld.2.2.2.2.2.2.2.1 (fun h => h), f7.cell hHeld.2.2.2.2.2.2.2.2.1 (fun h => h), f7.cell hHeld.2.2.2.2.2.2.2.2.2.1 (fun h => h), hHeld.2.2.2.2.2.2.2.2.2.2.still f7⟩ (fun hHeld => ?_)
                    clear hK K f7 HF6
                    refine wpAnyH_take (i := 14) (oi := ⟨some 27, _, _, _, _, _⟩) (v := (.int .i64 (bits .and .i64 (O : Int) (O' : Int)))) rfl (by kernel_rfl) (by kernel_rfl) (by kernel_rfl) (fun _ _ _ h => h) (.inl ⟨by rfl, fun w hw => by dsimp only at hw; go_simp⟩) hHeld ?_
                    simp only [Act.put, List.setIfInBounds_toArray, List.set_cons_zero, List.set_cons_succ]
                    refine wpAnyH_take (i := 19) (oi := ⟨some 32, _, _, _, _, _⟩) (v := (.agg #[.int .i64 (max (L : Int) (L' : Int)), .int .i64 (min (H : Int) (H' : Int)), .int .i64 (bits .and .i64 (O : Int) (O' : Int)), .string (b), .string (d)])) rfl (by kernel_rfl) (by kernel_rfl) (by kernel_rfl) (fun _ _ _ h => h) (.inl ⟨by rfl, fun w hw => by dsimp only at hw; go_simp⟩) hHeld ?_
                    simp only [Act.put, List.setIfInBounds_toArray, List.set_cons_zero, List.set_cons_succ]
                    refine wpAnyH_ready (rs := [21]) (by kernel_rfl) (by simp) ?_
                    refine AllReadyH.cons (o := ⟨none, _, _, _, _, _⟩) rfl (fun K hK => ?_) AllReadyH.nil
                    have hr8 := hrm
                    obtain ⟨u0, u1, u2, u3, u4, ⟨c0, c1, c2, c3, c4⟩, z0, z1, z2, z3, z4⟩ := hr8.facts
                    go_simp
                    clear c0 c1 c2 c3 c4 z0 z1 z2 z3 z4
                    obtain ⟨V8, hV8, hrow8, hres8, hcell8, hheap8⟩ := hr8.put2 (.int .i64 (max (L : Int) (L' : Int))) (.int .i64 (min (H : Int) (H' : Int))) (.int .i64 (bits .and .i64 (O : Int) (O' : Int))) (.string (b)) (.string (d))
                    rw [hV8]
                    clear hV8 hr8
                    refine hK.out _ _ ⟨hcell8 _ _ _ hnxm hHeld.1, hcell8 _ _ _ hnxm hHeld.2.1, hcell8 _ _ _ hnxm hHeld.2.2.1, hcell8 _ _ _ hnxm hHeld.2.2.2.1, hcell8 _ _ _ hnxm hHeld.2.2.2.2.1, hcell8 _ _ _ hnym hHeld.2.2.2.2.2.1, hcell8 _ _ _ hnym hHeld.2.2.2.2.2.2.1, hcell8 _ _ _ hnym hHeld.2.2.2.2.2.2.2.1, hcell8 _ _ _ hnym hHeld.2.2.2.2.2.2.2.2.1, hcell8 _ _ _ hnym hHeld.2.2.2.2.2.2.2.2.2.1, (hHeld.2.2.2.2.2.2.2.2.2.2).move hres8.frm (hheap8 _ hngm)⟩ (fun hHeld => ?_)
                    clear hK K hcell8
                    refine wpAnyH_done (by kernel_rfl) ?_ _
                    obtain ⟨a0, a1, a2, a3, a4, b0, b1, b2, b3, b4, hres⟩ := hHeld
                    go_wp2_with fail
                    go_meet
                    case rel => exact ⟨m, rfl, hrow8, ⟨a3, a4, b3, b4⟩, hres, hres8, hnxm, hnym, hngm⟩
                · skip
                  go_simp
                  have hrm := Res.start w _ HF4.out
                  have f5 := (Frm.refl (fun _ => False) V4).alloc (.cells #[.int .i64 0, .int .i64 0, .int .i64 0, .string ⟨#[]⟩, .string ⟨#[]⟩] 24)
                  have hnxm : x ≠ V4.heap.size := fun e => by have := World.block_lt_of_cell? _ _ hHeld.1; simp only at this; omega
                  have hnym : y ≠ V4.heap.size := fun e => by have := World.block_lt_of_cell? _ _ hHeld.2.2.2.2.2.1; simp only at this; omega
                  have hngm : g ≠ V4.heap.size := fun e => by have := (hHeld.2.2.2.2.2.2.2.2.2.2).lt; omega
                  obtain ⟨V5, hV5⟩ : ∃ V, V = V4.alloc (.cells #[.int .i64 0, .int .i64 0, .int .i64 0, .string ⟨#[]⟩, .string ⟨#[]⟩] 24) := ⟨_, rfl⟩
                  obtain ⟨m, hm5⟩ : ∃ m, m = V4.heap.size := ⟨_, rfl⟩
                  rw [← hV5, ← hm5] at hrm
                  rw [← hV5] at f5
                  rw [← hm5] at hnxm hnym hngm
                  rw [← hV5, ← hm5]
                  clear hV5 hm5
                  have HF5 := Lib.hid (HF4.out.trans f5)
                  refine hK.out _ _ ⟨f5.cell hHeld.1 (fun h => h), f5.cell hHeld.2.1 (fun h => h), f5.cell hHeld.2.2.1 (fun h => h), f5.cell hHeld.2.2.2.1 (fun h => h), f5.cell hHeld.2.2.2.2.1 (fun h => h), f5.cell hHeld.2.2.2.2.2.1 (fun h => h), f5.cell hHeld.2.2.2.2.2.2.1 (fun h => h), f5.cell hHeld.2.2.2.2.2.2.2.1 (fun h => h), f5.cell hHeld.2.2.2.2.2.2.2.2.1 (fun h => h), f5.cell hHeld.2.2.2.2.2.2.2.2.2.1 (fun h => h), hHeld.2.2.2.2.2.2.2.2.2.2.still f5⟩ (fun hHeld => ?_)
                  clear hK K f5 HF4
                  refine wpAnyH_ready (rs := [11]) (by kernel_rfl) (by simp) ?_
                  refine AllReadyH.cons (o := ⟨some 24, _, _, _, _, _⟩) rfl (fun K hK => ?_) AllReadyH.nil
                  go_simp
                  refine (Hown.out _).mono ?_
                  rintro e V6 ⟨rfl, f6⟩
                  have HF6 := Lib.hid (HF5.out.trans f6)
                  have hrm := hrm.still f6
                  refine hK.out _ _ ⟨f6.cell hHeld.1 (fun h => h), f6.cell hHeld.2.1 (fun h => h), f6.cell hHeld.2.2.1 (fun h => h), f6.cell hHeld.2.2.2.1 (fun h => h), f6.cell hHeld.2.2.2.2.1 (fun h => h), f6.cell hHeld.2.2.2.2.2.1 (fun h => h), f6.cell hHeld.2.2.2.2.2.2.1 (fun h => h), f6.cell hHeld.2.2.2.2.2.2.2.1 (fun h => h), f6.cell hHeld.2.2.2.2.2.2.2.2.1 (fun h => h), f6.cell hHeld.2.2.2.2.2.2.2.2.2.1 (fun h => h), hHeld.2.2.2.2.2.2.2.2.2.2.still f6⟩ (fun hHeld => ?_)
                  clear hK K f6 HF5
                  refine wpAnyH_ready (rs := [13]) (by kernel_rfl) (by simp) ?_
                  refine AllReadyH.cons (o := ⟨some 26, _, _, _, _, _⟩) rfl (fun K hK => ?_) AllReadyH.nil
                  go_simp
                  refine (Hown'.out _).mono ?_
                  rintro e V7 ⟨rfl, f7⟩
                  have HF7 := Lib.hid (HF6.out.trans f7)
                  have hrm := hrm.still f7
                  refine hK.out _ _ ⟨f7.cell hHeld.1 (fun h => h), f7.cell hHeld.2.1 (fun h => h), f7.cell hHeld.2.2.1 (fun h => h), f7.cell hHeld.2.2.2.1 (fun h => h), f7.cell hHeld.2.2.2.2.1 (fun h => h), f7.cell hHeld.2.2.2.2.2.1 (fun h => h), f7.cell hHeld.2.2.2.2.2.2.1 (fun h => h), f7.cell hHeld.2.2.2.2.2.2.2.1 (fun h => h), f7.cell hHeld.2.2.2.2.2.2.2.2.1 (fun h => h), f7.cell hHeld.2.2.2.2.2.2.2.2.2.1 (fun h => h), hHeld.2.2.2.2.2.2.2.2.2.2.still f7⟩ (fun hHeld => ?_)
                  clear hK K f7 HF6
                  refine wpAnyH_take (i := 14) (oi := ⟨some 27, _, _, _, _, _⟩) (v := (.int .i64 (bits .and .i64 (O : Int) (O' : Int)))) rfl (by kernel_rfl) (by kernel_rfl) (by kernel_rfl) (fun _ _ _ h => h) (.inl ⟨by rfl, fun w hw => by dsimp only at hw; go_simp⟩) hHeld ?_
                  simp only [Act.put, List.setIfInBounds_toArray, List.set_cons_zero, List.set_cons_succ]
                  refine wpAnyH_take (i := 19) (oi := ⟨some 32, _, _, _, _, _⟩) (v := (.agg #[.int .i64 (max (L : Int) (L' : Int)), .int .i64 (min (H : Int) (H' : Int)), .int .i64 (bits .and .i64 (O : Int) (O' : Int)), .string (b), .string (d)])) rfl (by kernel_rfl) (by kernel_rfl) (by kernel_rfl) (fun _ _ _ h => h) (.inl ⟨by rfl, fun w hw => by dsimp only at hw; go_simp⟩) hHeld ?_
                  simp only [Act.put, List.setIfInBounds_toArray, List.set_cons_zero, List.set_cons_succ]
                  refine wpAnyH_ready (rs := [21]) (by kernel_rfl) (by simp) ?_
                  refine AllReadyH.cons (o := ⟨none, _, _, _, _, _⟩) rfl (fun K hK => ?_) AllReadyH.nil
                  have hr8 := hrm
                  obtain ⟨u0, u1, u2, u3, u4, ⟨c0, c1, c2, c3, c4⟩, z0, z1, z2, z3, z4⟩ := hr8.facts
                  go_simp
                  clear c0 c1 c2 c3 c4 z0 z1 z2 z3 z4
                  obtain ⟨V8, hV8, hrow8, hres8, hcell8, hheap8⟩ := hr8.put2 (.int .i64 (max (L : Int) (L' : Int))) (.int .i64 (min (H : Int) (H' : Int))) (.int .i64 (bits .and .i64 (O : Int) (O' : Int))) (.string (b)) (.string (d))
                  rw [hV8]
                  clear hV8 hr8
                  refine hK.out _ _ ⟨hcell8 _ _ _ hnxm hHeld.1, hcell8 _ _ _ hnxm hHeld.2.1, hcell8 _ _ _ hnxm hHeld.2.2.1, hcell8 _ _ _ hnxm hHeld.2.2.2.1, hcell8 _ _ _ hnxm hHeld.2.2.2.2.1, hcell8 _ _ _ hnym hHeld.2.2.2.2.2.1, hcell8 _ _ _ hnym hHeld.2.2.2.2.2.2.1, hcell8 _ _ _ hnym hHeld.2.2.2.2.2.2.2.1, hcell8 _ _ _ hnym hHeld.2.2.2.2.2.2.2.2.1, hcell8 _ _ _ hnym hHeld.2.2.2.2.2.2.2.2.2.1, (hHeld.2.2.2.2.2.2.2.2.2.2).move hres8.frm (hheap8 _ hngm)⟩ (fun hHeld => ?_)
                  clear hK K hcell8
                  refine wpAnyH_done (by kernel_rfl) ?_ _
                  obtain ⟨a0, a1, a2, a3, a4, b0, b1, b2, b3, b4, hres⟩ := hHeld
                  go_wp2_with fail
                  go_meet
                  case rel => exact ⟨m, rfl, hrow8, ⟨a3, a4, b3, b4⟩, hres, hres8, hnxm, hnym, hngm⟩
              · skip
                go_simp
                have hrm := Res.start w _ HF3.out
                have f4 := (Frm.refl (fun _ => False) V3).alloc (.cells #[.int .i64 0, .int .i64 0, .int .i64 0, .string ⟨#[]⟩, .string ⟨#[]⟩] 24)
                have hnxm : x ≠ V3.heap.size := fun e => by have := World.block_lt_of_cell? _ _ hHeld.1; simp only at this; omega
                have hnym : y ≠ V3.heap.size := fun e => by have := World.block_lt_of_cell? _ _ hHeld.2.2.2.2.2.1; simp only at this; omega
                have hngm : g ≠ V3.heap.size := fun e => by have := (hHeld.2.2.2.2.2.2.2.2.2.2).lt; omega
                obtain ⟨V4, hV4⟩ : ∃ V, V = V3.alloc (.cells #[.int .i64 0, .int .i64 0, .int .i64 0, .string ⟨#[]⟩, .string ⟨#[]⟩] 24) := ⟨_, rfl⟩
                obtain ⟨m, hm4⟩ : ∃ m, m = V3.heap.size := ⟨_, rfl⟩
                rw [← hV4, ← hm4] at hrm
                rw [← hV4] at f4
                rw [← hm4] at hnxm hnym hngm
                rw [← hV4, ← hm4]
                clear hV4 hm4
                have HF4 := Lib.hid (HF3.out.trans f4)
                refine hK.out _ _ ⟨f4.cell hHeld.1 (fun h => h), f4.cell hHeld.2.1 (fun h => h), f4.cell hHeld.2.2.1 (fun h => h), f4.cell hHeld.2.2.2.1 (fun h => h), f4.cell hHeld.2.2.2.2.1 (fun h => h), f4.cell hHeld.2.2.2.2.2.1 (fun h => h), f4.cell hHeld.2.2.2.2.2.2.1 (fun h => h), f4.cell hHeld.2.2.2.2.2.2.2.1 (fun h => h), f4.cell hHeld.2.2.2.2.2.2.2.2.1 (fun h => h), f4.cell hHeld.2.2.2.2.2.2.2.2.2.1 (fun h => h), hHeld.2.2.2.2.2.2.2.2.2.2.still f4⟩ (fun hHeld => ?_)
                clear hK K f4 HF3
                refine wpAnyH_ready (rs := [8]) (by kernel_rfl) (by simp) ?_
                refine AllReadyH.cons (o := ⟨some 21, _, _, _, _, _⟩) rfl (fun K hK => ?_) AllReadyH.nil
                go_simp
                refine (Hhigh'.out _).mono ?_
                rintro e V5 ⟨rfl, f5⟩
                have HF5 := Lib.hid (HF4.out.trans f5)
                have hrm := hrm.still f5
                refine hK.out _ _ ⟨f5.cell hHeld.1 (fun h => h), f5.cell hHeld.2.1 (fun h => h), f5.cell hHeld.2.2.1 (fun h => h), f5.cell hHeld.2.2.2.1 (fun h => h), f5.cell hHeld.2.2.2.2.1 (fun h => h), f5.cell hHeld.2.2.2.2.2.1 (fun h => h), f5.cell hHeld.2.2.2.2.2.2.1 (fun h => h), f5.cell hHeld.2.2.2.2.2.2.2.1 (fun h => h), f5.cell hHeld.2.2.2.2.2.2.2.2.1 (fun h => h), f5.cell hHeld.2.2.2.2.2.2.2.2.2.1 (fun h => h), hHeld.2.2.2.2.2.2.2.2.2.2.still f5⟩ (fun hHeld => ?_)
                clear hK K f5 HF4
                refine wpAnyH_take (i := 9) (oi := ⟨some 22, _, _, _, _, _⟩) (v := (.int .i64 (min (H : Int) (H' : Int)))) rfl (by kernel_rfl) (by kernel_rfl) (by kernel_rfl) (fun _ _ _ h => h) (.inl ⟨by rfl, fun w hw => by dsimp only at hw; go_simp⟩) hHeld ?_
                simp only [Act.put, List.setIfInBounds_toArray, List.set_cons_zero, List.set_cons_succ]
                refine wpAnyH_ready (rs := [11]) (by kernel_rfl) (by simp) ?_
                refine AllReadyH.cons (o := ⟨some 24, _, _, _, _, _⟩) rfl (fun K hK => ?_) AllReadyH.nil
                go_simp
                refine (Hown.out _).mono ?_
                rintro e V6 ⟨rfl, f6⟩
                have HF6 := Lib.hid (HF5.out.trans f6)
                have hrm := hrm.still f6
                refine hK.out _ _ ⟨f6.cell hHeld.1 (fun h => h), f6.cell hHeld.2.1 (fun h => h), f6.cell hHeld.2.2.1 (fun h => h), f6.cell hHeld.2.2.2.1 (fun h => h), f6.cell hHeld.2.2.2.2.1 (fun h => h), f6.cell hHeld.2.2.2.2.2.1 (fun h => h), f6.cell hHeld.2.2.2.2.2.2.1 (fun h => h), f6.cell hHeld.2.2.2.2.2.2.2.1 (fun h => h), f6.cell hHeld.2.2.2.2.2.2.2.2.1 (fun h => h), f6.cell hHeld.2.2.2.2.2.2.2.2.2.1 (fun h => h), hHeld.2.2.2.2.2.2.2.2.2.2.still f6⟩ (fun hHeld => ?_)
                clear hK K f6 HF5
                refine wpAnyH_ready (rs := [13]) (by kernel_rfl) (by simp) ?_
                refine AllReadyH.cons (o := ⟨some 26, _, _, _, _, _⟩) rfl (fun K hK => ?_) AllReadyH.nil
                go_simp
                refine (Hown'.out _).mono ?_
                rintro e V7 ⟨rfl, f7⟩
                have HF7 := Lib.hid (HF6.out.trans f7)
                have hrm := hrm.still f7
                refine hK.out _ _ ⟨f7.cell hHeld.1 (fun h => h), f7.cell hHeld.2.1 (fun h => h), f7.cell hHeld.2.2.1 (fun h => h), f7.cell hHeld.2.2.2.1 (fun h => h), f7.cell hHeld.2.2.2.2.1 (fun h => h), f7.cell hHeld.2.2.2.2.2.1 (fun h => h), f7.cell hHeld.2.2.2.2.2.2.1 (fun h => h), f7.cell hHeld.2.2.2.2.2.2.2.1 (fun h => h), f7.cell hHeld.2.2.2.2.2.2.2.2.1 (fun h => h), f7.cell hHeld.2.2.2.2.2.2.2.2.2.1 (fun h => h), hHeld.2.2.2.2.2.2.2.2.2.2.still f7⟩ (fun hHeld => ?_)
                clear hK K f7 HF6
                refine wpAnyH_take (i := 14) (oi := ⟨some 27, _, _, _, _, _⟩) (v := (.int .i64 (bits .and .i64 (O : Int) (O' : Int)))) rfl (by kernel_rfl) (by kernel_rfl) (by kernel_rfl) (fun _ _ _ h => h) (.inl ⟨by rfl, fun w hw => by dsimp only at hw; go_simp⟩) hHeld ?_
                simp only [Act.put, List.setIfInBounds_toArray, List.set_cons_zero, List.set_cons_succ]
                refine wpAnyH_take (i := 19) (oi := ⟨some 32, _, _, _, _, _⟩) (v := (.agg #[.int .i64 (max (L : Int) (L' : Int)), .int .i64 (min (H : Int) (H' : Int)), .int .i64 (bits .and .i64 (O : Int) (O' : Int)), .string (b), .string (d)])) rfl (by kernel_rfl) (by kernel_rfl) (by kernel_rfl) (fun _ _ _ h => h) (.inl ⟨by rfl, fun w hw => by dsimp only at hw; go_simp⟩) hHeld ?_
                simp only [Act.put, List.setIfInBounds_toArray, List.set_cons_zero, List.set_cons_succ]
                refine wpAnyH_ready (rs := [21]) (by kernel_rfl) (by simp) ?_
                refine AllReadyH.cons (o := ⟨none, _, _, _, _, _⟩) rfl (fun K hK => ?_) AllReadyH.nil
                have hr8 := hrm
                obtain ⟨u0, u1, u2, u3, u4, ⟨c0, c1, c2, c3, c4⟩, z0, z1, z2, z3, z4⟩ := hr8.facts
                go_simp
                clear c0 c1 c2 c3 c4 z0 z1 z2 z3 z4
                obtain ⟨V8, hV8, hrow8, hres8, hcell8, hheap8⟩ := hr8.put2 (.int .i64 (max (L : Int) (L' : Int))) (.int .i64 (min (H : Int) (H' : Int))) (.int .i64 (bits .and .i64 (O : Int) (O' : Int))) (.string (b)) (.string (d))
                rw [hV8]
                clear hV8 hr8
                refine hK.out _ _ ⟨hcell8 _ _ _ hnxm hHeld.1, hcell8 _ _ _ hnxm hHeld.2.1, hcell8 _ _ _ hnxm hHeld.2.2.1, hcell8 _ _ _ hnxm hHeld.2.2.2.1, hcell8 _ _ _ hnxm hHeld.2.2.2.2.1, hcell8 _ _ _ hnym hHeld.2.2.2.2.2.1, hcell8 _ _ _ hnym hHeld.2.2.2.2.2.2.1, hcell8 _ _ _ hnym hHeld.2.2.2.2.2.2.2.1, hcell8 _ _ _ hnym hHeld.2.2.2.2.2.2.2.2.1, hcell8 _ _ _ hnym hHeld.2.2.2.2.2.2.2.2.2.1, (hHeld.2.2.2.2.2.2.2.2.2.2).move hres8.frm (hheap8 _ hngm)⟩ (fun hHeld => ?_)
                clear hK K hcell8
                refine wpAnyH_done (by kernel_rfl) ?_ _
                obtain ⟨a0, a1, a2, a3, a4, b0, b1, b2, b3, b4, hres⟩ := hHeld
                go_wp2_with fail
                go_meet
                case rel => exact ⟨m, rfl, hrow8, ⟨a3, a4, b3, b4⟩, hres, hres8, hnxm, hnym, hngm⟩
            · skip
              go_simp
              have hrm := Res.start w _ HF2.out
              have f3 := (Frm.refl (fun _ => False) V2).alloc (.cells #[.int .i64 0, .int .i64 0, .int .i64 0, .string ⟨#[]⟩, .string ⟨#[]⟩] 24)
              have hnxm : x ≠ V2.heap.size := fun e => by have := World.block_lt_of_cell? _ _ hHeld.1; simp only at this; omega
              have hnym : y ≠ V2.heap.size := fun e => by have := World.block_lt_of_cell? _ _ hHeld.2.2.2.2.2.1; simp only at this; omega
              have hngm : g ≠ V2.heap.size := fun e => by have := (hHeld.2.2.2.2.2.2.2.2.2.2).lt; omega
              obtain ⟨V3, hV3⟩ : ∃ V, V = V2.alloc (.cells #[.int .i64 0, .int .i64 0, .int .i64 0, .string ⟨#[]⟩, .string ⟨#[]⟩] 24) := ⟨_, rfl⟩
              obtain ⟨m, hm3⟩ : ∃ m, m = V2.heap.size := ⟨_, rfl⟩
              rw [← hV3, ← hm3] at hrm
              rw [← hV3] at f3
              rw [← hm3] at hnxm hnym hngm
              rw [← hV3, ← hm3]
              clear hV3 hm3
              have HF3 := Lib.hid (HF2.out.trans f3)
              refine hK.out _ _ ⟨f3.cell hHeld.1 (fun h => h), f3.cell hHeld.2.1 (fun h => h), f3.cell hHeld.2.2.1 (fun h => h), f3.cell hHeld.2.2.2.1 (fun h => h), f3.cell hHeld.2.2.2.2.1 (fun h => h), f3.cell hHeld.2.2.2.2.2.1 (fun h => h), f3.cell hHeld.2.2.2.2.2.2.1 (fun h => h), f3.cell hHeld.2.2.2.2.2.2.2.1 (fun h => h), f3.cell hHeld.2.2.2.2.2.2.2.2.1 (fun h => h), f3.cell hHeld.2.2.2.2.2.2.2.2.2.1 (fun h => h), hHeld.2.2.2.2.2.2.2.2.2.2.still f3⟩ (fun hHeld => ?_)
              clear hK K f3 HF2
              refine wpAnyH_ready (rs := [6]) (by kernel_rfl) (by simp) ?_
              refine AllReadyH.cons (o := ⟨some 19, _, _, _, _, _⟩) rfl (fun K hK => ?_) AllReadyH.nil
              go_simp
              refine (Hhigh.out _).mono ?_
              rintro e V4 ⟨rfl, f4⟩
              have HF4 := Lib.hid (HF3.out.trans f4)
              have hrm := hrm.still f4
              refine hK.out _ _ ⟨f4.cell hHeld.1 (fun h => h), f4.cell hHeld.2.1 (fun h => h), f4.cell hHeld.2.2.1 (fun h => h), f4.cell hHeld.2.2.2.1 (fun h => h), f4.cell hHeld.2.2.2.2.1 (fun h => h), f4.cell hHeld.2.2.2.2.2.1 (fun h => h), f4.cell hHeld.2.2.2.2.2.2.1 (fun h => h), f4.cell hHeld.2.2.2.2.2.2.2.1 (fun h => h), f4.cell hHeld.2.2.2.2.2.2.2.2.1 (fun h => h), f4.cell hHeld.2.2.2.2.2.2.2.2.2.1 (fun h => h), hHeld.2.2.2.2.2.2.2.2.2.2.still f4⟩ (fun hHeld => ?_)
              clear hK K f4 HF3
              refine wpAnyH_ready (rs := [8]) (by kernel_rfl) (by simp) ?_
              refine AllReadyH.cons (o := ⟨some 21, _, _, _, _, _⟩) rfl (fun K hK => ?_) AllReadyH.nil
              go_simp
              refine (Hhigh'.out _).mono ?_
              rintro e V5 ⟨rfl, f5⟩
              have HF5 := Lib.hid (HF4.out.trans f5)
              have hrm := hrm.still f5
              refine hK.out _ _ ⟨f5.cell hHeld.1 (fun h => h), f5.cell hHeld.2.1 (fun h => h), f5.cell hHeld.2.2.1 (fun h => h), f5.cell hHeld.2.2.2.1 (fun h => h), f5.cell hHeld.2.2.2.2.1 (fun h => h), f5.cell hHeld.2.2.2.2.2.1 (fun h => h), f5.cell hHeld.2.2.2.2.2.2.1 (fun h => h), f5.cell hHeld.2.2.2.2.2.2.2.1 (fun h => h), f5.cell hHeld.2.2.2.2.2.2.2.2.1 (fun h => h), f5.cell hHeld.2.2.2.2.2.2.2.2.2.1 (fun h => h), hHeld.2.2.2.2.2.2.2.2.2.2.still f5⟩ (fun hHeld => ?_)
              clear hK K f5 HF4
              refine wpAnyH_take (i := 9) (oi := ⟨some 22, _, _, _, _, _⟩) (v := (.int .i64 (min (H : Int) (H' : Int)))) rfl (by kernel_rfl) (by kernel_rfl) (by kernel_rfl) (fun _ _ _ h => h) (.inl ⟨by rfl, fun w hw => by dsimp only at hw; go_simp⟩) hHeld ?_
              simp only [Act.put, List.setIfInBounds_toArray, List.set_cons_zero, List.set_cons_succ]
              refine wpAnyH_ready (rs := [11]) (by kernel_rfl) (by simp) ?_
              refine AllReadyH.cons (o := ⟨some 24, _, _, _, _, _⟩) rfl (fun K hK => ?_) AllReadyH.nil
              go_simp
              refine (Hown.out _).mono ?_
              rintro e V6 ⟨rfl, f6⟩
              have HF6 := Lib.hid (HF5.out.trans f6)
              have hrm := hrm.still f6
              refine hK.out _ _ ⟨f6.cell hHeld.1 (fun h => h), f6.cell hHeld.2.1 (fun h => h), f6.cell hHeld.2.2.1 (fun h => h), f6.cell hHeld.2.2.2.1 (fun h => h), f6.cell hHeld.2.2.2.2.1 (fun h => h), f6.cell hHeld.2.2.2.2.2.1 (fun h => h), f6.cell hHeld.2.2.2.2.2.2.1 (fun h => h), f6.cell hHeld.2.2.2.2.2.2.2.1 (fun h => h), f6.cell hHeld.2.2.2.2.2.2.2.2.1 (fun h => h), f6.cell hHeld.2.2.2.2.2.2.2.2.2.1 (fun h => h), hHeld.2.2.2.2.2.2.2.2.2.2.still f6⟩ (fun hHeld => ?_)
              clear hK K f6 HF5
              refine wpAnyH_ready (rs := [13]) (by kernel_rfl) (by simp) ?_
              refine AllReadyH.cons (o := ⟨some 26, _, _, _, _, _⟩) rfl (fun K hK => ?_) AllReadyH.nil
              go_simp
              refine (Hown'.out _).mono ?_
              rintro e V7 ⟨rfl, f7⟩
              have HF7 := Lib.hid (HF6.out.trans f7)
              have hrm := hrm.still f7
              refine hK.out _ _ ⟨f7.cell hHeld.1 (fun h => h), f7.cell hHeld.2.1 (fun h => h), f7.cell hHeld.2.2.1 (fun h => h), f7.cell hHeld.2.2.2.1 (fun h => h), f7.cell hHeld.2.2.2.2.1 (fun h => h), f7.cell hHeld.2.2.2.2.2.1 (fun h => h), f7.cell hHeld.2.2.2.2.2.2.1 (fun h => h), f7.cell hHeld.2.2.2.2.2.2.2.1 (fun h => h), f7.cell hHeld.2.2.2.2.2.2.2.2.1 (fun h => h), f7.cell hHeld.2.2.2.2.2.2.2.2.2.1 (fun h => h), hHeld.2.2.2.2.2.2.2.2.2.2.still f7⟩ (fun hHeld => ?_)
              clear hK K f7 HF6
              refine wpAnyH_take (i := 14) (oi := ⟨some 27, _, _, _, _, _⟩) (v := (.int .i64 (bits .and .i64 (O : Int) (O' : Int)))) rfl (by kernel_rfl) (by kernel_rfl) (by kernel_rfl) (fun _ _ _ h => h) (.inl ⟨by rfl, fun w hw => by dsimp only at hw; go_simp⟩) hHeld ?_
              simp only [Act.put, List.setIfInBounds_toArray, List.set_cons_zero, List.set_cons_succ]
              refine wpAnyH_take (i := 19) (oi := ⟨some 32, _, _, _, _, _⟩) (v := (.agg #[.int .i64 (max (L : Int) (L' : Int)), .int .i64 (min (H : Int) (H' : Int)), .int .i64 (bits .and .i64 (O : Int) (O' : Int)), .string (b), .string (d)])) rfl (by kernel_rfl) (by kernel_rfl) (by kernel_rfl) (fun _ _ _ h => h) (.inl ⟨by rfl, fun w hw => by dsimp only at hw; go_simp⟩) hHeld ?_
              simp only [Act.put, List.setIfInBounds_toArray, List.set_cons_zero, List.set_cons_succ]
              refine wpAnyH_ready (rs := [21]) (by kernel_rfl) (by simp) ?_
              refine AllReadyH.cons (o := ⟨none, _, _, _, _, _⟩) rfl (fun K hK => ?_) AllReadyH.nil
              have hr8 := hrm
              obtain ⟨u0, u1, u2, u3, u4, ⟨c0, c1, c2, c3, c4⟩, z0, z1, z2, z3, z4⟩ := hr8.facts
              go_simp
              clear c0 c1 c2 c3 c4 z0 z1 z2 z3 z4
              obtain ⟨V8, hV8, hrow8, hres8, hcell8, hheap8⟩ := hr8.put2 (.int .i64 (max (L : Int) (L' : Int))) (.int .i64 (min (H : Int) (H' : Int))) (.int .i64 (bits .and .i64 (O : Int) (O' : Int))) (.string (b)) (.string (d))
              rw [hV8]
              clear hV8 hr8
              refine hK.out _ _ ⟨hcell8 _ _ _ hnxm hHeld.1, hcell8 _ _ _ hnxm hHeld.2.1, hcell8 _ _ _ hnxm hHeld.2.2.1, hcell8 _ _ _ hnxm hHeld.2.2.2.1, hcell8 _ _ _ hnxm hHeld.2.2.2.2.1, hcell8 _ _ _ hnym hHeld.2.2.2.2.2.1, hcell8 _ _ _ hnym hHeld.2.2.2.2.2.2.1, hcell8 _ _ _ hnym hHeld.2.2.2.2.2.2.2.1, hcell8 _ _ _ hnym hHeld.2.2.2.2.2.2.2.2.1, hcell8 _ _ _ hnym hHeld.2.2.2.2.2.2.2.2.2.1, (hHeld.2.2.2.2.2.2.2.2.2.2).move hres8.frm (hheap8 _ hngm)⟩ (fun hHeld => ?_)
              clear hK K hcell8
              refine wpAnyH_done (by kernel_rfl) ?_ _
              obtain ⟨a0, a1, a2, a3, a4, b0, b1, b2, b3, b4, hres⟩ := hHeld
              go_wp2_with fail
              go_meet
              case rel => exact ⟨m, rfl, hrow8, ⟨a3, a4, b3, b4⟩, hres, hres8, hnxm, hnym, hngm⟩
          · skip
            go_simp
            have hrm := Res.start w _ HF1.out
            have f2 := (Frm.refl (fun _ => False) V1).alloc (.cells #[.int .i64 0, .int .i64 0, .int .i64 0, .string ⟨#[]⟩, .string ⟨#[]⟩] 24)
            have hnxm : x ≠ V1.heap.size := fun e => by have := World.block_lt_of_cell? _ _ hHeld.1; simp only at this; omega
            have hnym : y ≠ V1.heap.size := fun e => by have := World.block_lt_of_cell? _ _ hHeld.2.2.2.2.2.1; simp only at this; omega
            have hngm : g ≠ V1.heap.size := fun e => by have := (hHeld.2.2.2.2.2.2.2.2.2.2).lt; omega
            obtain ⟨V2, hV2⟩ : ∃ V, V = V1.alloc (.cells #[.int .i64 0, .int .i64 0, .int .i64 0, .string ⟨#[]⟩, .string ⟨#[]⟩] 24) := ⟨_, rfl⟩
            obtain ⟨m, hm2⟩ : ∃ m, m = V1.heap.size := ⟨_, rfl⟩
            rw [← hV2, ← hm2] at hrm
            rw [← hV2] at f2
            rw [← hm2] at hnxm hnym hngm
            rw [← hV2, ← hm2]
            clear hV2 hm2
            have HF2 := Lib.hid (HF1.out.trans f2)
            refine hK.out _ _ ⟨f2.cell hHeld.1 (fun h => h), f2.cell hHeld.2.1 (fun h => h), f2.cell hHeld.2.2.1 (fun h => h), f2.cell hHeld.2.2.2.1 (fun h => h), f2.cell hHeld.2.2.2.2.1 (fun h => h), f2.cell hHeld.2.2.2.2.2.1 (fun h => h), f2.cell hHeld.2.2.2.2.2.2.1 (fun h => h), f2.cell hHeld.2.2.2.2.2.2.2.1 (fun h => h), f2.cell hHeld.2.2.2.2.2.2.2.2.1 (fun h => h), f2.cell hHeld.2.2.2.2.2.2.2.2.2.1 (fun h => h), hHeld.2.2.2.2.2.2.2.2.2.2.still f2⟩ (fun hHeld => ?_)
            clear hK K f2 HF1
            refine wpAnyH_ready (rs := [3]) (by kernel_rfl) (by simp) ?_
            refine AllReadyH.cons (o := ⟨some 16, _, _, _, _, _⟩) rfl (fun K hK => ?_) AllReadyH.nil
            go_simp
            refine (Hlow'.out _).mono ?_
            rintro e V3 ⟨rfl, f3⟩
            have HF3 := Lib.hid (HF2.out.trans f3)
            have hrm := hrm.still f3
            refine hK.out _ _ ⟨f3.cell hHeld.1 (fun h => h), f3.cell hHeld.2.1 (fun h => h), f3.cell hHeld.2.2.1 (fun h => h), f3.cell hHeld.2.2.2.1 (fun h => h), f3.cell hHeld.2.2.2.2.1 (fun h => h), f3.cell hHeld.2.2.2.2.2.1 (fun h => h), f3.cell hHeld.2.2.2.2.2.2.1 (fun h => h), f3.cell hHeld.2.2.2.2.2.2.2.1 (fun h => h), f3.cell hHeld.2.2.2.2.2.2.2.2.1 (fun h => h), f3.cell hHeld.2.2.2.2.2.2.2.2.2.1 (fun h => h), hHeld.2.2.2.2.2.2.2.2.2.2.still f3⟩ (fun hHeld => ?_)
            clear hK K f3 HF2
            refine wpAnyH_take (i := 4) (oi := ⟨some 17, _, _, _, _, _⟩) (v := (.int .i64 (max (L : Int) (L' : Int)))) rfl (by kernel_rfl) (by kernel_rfl) (by kernel_rfl) (fun _ _ _ h => h) (.inl ⟨by rfl, fun w hw => by dsimp only at hw; go_simp⟩) hHeld ?_
            simp only [Act.put, List.setIfInBounds_toArray, List.set_cons_zero, List.set_cons_succ]
            refine wpAnyH_ready (rs := [6]) (by kernel_rfl) (by simp) ?_
            refine AllReadyH.cons (o := ⟨some 19, _, _, _, _, _⟩) rfl (fun K hK => ?_) AllReadyH.nil
            go_simp
            refine (Hhigh.out _).mono ?_
            rintro e V4 ⟨rfl, f4⟩
            have HF4 := Lib.hid (HF3.out.trans f4)
            have hrm := hrm.still f4
            refine hK.out _ _ ⟨f4.cell hHeld.1 (fun h => h), f4.cell hHeld.2.1 (fun h => h), f4.cell hHeld.2.2.1 (fun h => h), f4.cell hHeld.2.2.2.1 (fun h => h), f4.cell hHeld.2.2.2.2.1 (fun h => h), f4.cell hHeld.2.2.2.2.2.1 (fun h => h), f4.cell hHeld.2.2.2.2.2.2.1 (fun h => h), f4.cell hHeld.2.2.2.2.2.2.2.1 (fun h => h), f4.cell hHeld.2.2.2.2.2.2.2.2.1 (fun h => h), f4.cell hHeld.2.2.2.2.2.2.2.2.2.1 (fun h => h), hHeld.2.2.2.2.2.2.2.2.2.2.still f4⟩ (fun hHeld => ?_)
            clear hK K f4 HF3
            refine wpAnyH_ready (rs := [8]) (by kernel_rfl) (by simp) ?_
            refine AllReadyH.cons (o := ⟨some 21, _, _, _, _, _⟩) rfl (fun K hK => ?_) AllReadyH.nil
            go_simp
            refine (Hhigh'.out _).mono ?_
            rintro e V5 ⟨rfl, f5⟩
            have HF5 := Lib.hid (HF4.out.trans f5)
            have hrm := hrm.still f5
            refine hK.out _ _ ⟨f5.cell hHeld.1 (fun h => h), f5.cell hHeld.2.1 (fun h => h), f5.cell hHeld.2.2.1 (fun h => h), f5.cell hHeld.2.2.2.1 (fun h => h), f5.cell hHeld.2.2.2.2.1 (fun h => h), f5.cell hHeld.2.2.2.2.2.1 (fun h => h), f5.cell hHeld.2.2.2.2.2.2.1 (fun h => h), f5.cell hHeld.2.2.2.2.2.2.2.1 (fun h => h), f5.cell hHeld.2.2.2.2.2.2.2.2.1 (fun h => h), f5.cell hHeld.2.2.2.2.2.2.2.2.2.1 (fun h => h), hHeld.2.2.2.2.2.2.2.2.2.2.still f5⟩ (fun hHeld => ?_)
            clear hK K f5 HF4
            refine wpAnyH_take (i := 9) (oi := ⟨some 22, _, _, _, _, _⟩) (v := (.int .i64 (min (H : Int) (H' : Int)))) rfl (by kernel_rfl) (by kernel_rfl) (by kernel_rfl) (fun _ _ _ h => h) (.inl ⟨by rfl, fun w hw => by dsimp only at hw; go_simp⟩) hHeld ?_
            simp only [Act.put, List.setIfInBounds_toArray, List.set_cons_zero, List.set_cons_succ]
            refine wpAnyH_ready (rs := [11]) (by kernel_rfl) (by simp) ?_
            refine AllReadyH.cons (o := ⟨some 24, _, _, _, _, _⟩) rfl (fun K hK => ?_) AllReadyH.nil
            go_simp
            refine (Hown.out _).mono ?_
            rintro e V6 ⟨rfl, f6⟩
            have HF6 := Lib.hid (HF5.out.trans f6)
            have hrm := hrm.still f6
            refine hK.out _ _ ⟨f6.cell hHeld.1 (fun h => h), f6.cell hHeld.2.1 (fun h => h), f6.cell hHeld.2.2.1 (fun h => h), f6.cell hHeld.2.2.2.1 (fun h => h), f6.cell hHeld.2.2.2.2.1 (fun h => h), f6.cell hHeld.2.2.2.2.2.1 (fun h => h), f6.cell hHeld.2.2.2.2.2.2.1 (fun h => h), f6.cell hHeld.2.2.2.2.2.2.2.1 (fun h => h), f6.cell hHeld.2.2.2.2.2.2.2.2.1 (fun h => h), f6.cell hHeld.2.2.2.2.2.2.2.2.2.1 (fun h => h), hHeld.2.2.2.2.2.2.2.2.2.2.still f6⟩ (fun hHeld => ?_)
            clear hK K f6 HF5
            refine wpAnyH_ready (rs := [13]) (by kernel_rfl) (by simp) ?_
            refine AllReadyH.cons (o := ⟨some 26, _, _, _, _, _⟩) rfl (fun K hK => ?_) AllReadyH.nil
            go_simp
            refine (Hown'.out _).mono ?_
            rintro e V7 ⟨rfl, f7⟩
            have HF7 := Lib.hid (HF6.out.trans f7)
            have hrm := hrm.still f7
            refine hK.out _ _ ⟨f7.cell hHeld.1 (fun h => h), f7.cell hHeld.2.1 (fun h => h), f7.cell hHeld.2.2.1 (fun h => h), f7.cell hHeld.2.2.2.1 (fun h => h), f7.cell hHeld.2.2.2.2.1 (fun h => h), f7.cell hHeld.2.2.2.2.2.1 (fun h => h), f7.cell hHeld.2.2.2.2.2.2.1 (fun h => h), f7.cell hHeld.2.2.2.2.2.2.2.1 (fun h => h), f7.cell hHeld.2.2.2.2.2.2.2.2.1 (fun h => h), f7.cell hHeld.2.2.2.2.2.2.2.2.2.1 (fun h => h), hHeld.2.2.2.2.2.2.2.2.2.2.still f7⟩ (fun hHeld => ?_)
            clear hK K f7 HF6
            refine wpAnyH_take (i := 14) (oi := ⟨some 27, _, _, _, _, _⟩) (v := (.int .i64 (bits .and .i64 (O : Int) (O' : Int)))) rfl (by kernel_rfl) (by kernel_rfl) (by kernel_rfl) (fun _ _ _ h => h) (.inl ⟨by rfl, fun w hw => by dsimp only at hw; go_simp⟩) hHeld ?_
            simp only [Act.put, List.setIfInBounds_toArray, List.set_cons_zero, List.set_cons_succ]
            refine wpAnyH_take (i := 19) (oi := ⟨some 32, _, _, _, _, _⟩) (v := (.agg #[.int .i64 (max (L : Int) (L' : Int)), .int .i64 (min (H : Int) (H' : Int)), .int .i64 (bits .and .i64 (O : Int) (O' : Int)), .string (b), .string (d)])) rfl (by kernel_rfl) (by kernel_rfl) (by kernel_rfl) (fun _ _ _ h => h) (.inl ⟨by rfl, fun w hw => by dsimp only at hw; go_simp⟩) hHeld ?_
            simp only [Act.put, List.setIfInBounds_toArray, List.set_cons_zero, List.set_cons_succ]
            refine wpAnyH_ready (rs := [21]) (by kernel_rfl) (by simp) ?_
            refine AllReadyH.cons (o := ⟨none, _, _, _, _, _⟩) rfl (fun K hK => ?_) AllReadyH.nil
            have hr8 := hrm
            obtain ⟨u0, u1, u2, u3, u4, ⟨c0, c1, c2, c3, c4⟩, z0, z1, z2, z3, z4⟩ := hr8.facts
            go_simp
            clear c0 c1 c2 c3 c4 z0 z1 z2 z3 z4
            obtain ⟨V8, hV8, hrow8, hres8, hcell8, hheap8⟩ := hr8.put2 (.int .i64 (max (L : Int) (L' : Int))) (.int .i64 (min (H : Int) (H' : Int))) (.int .i64 (bits .and .i64 (O : Int) (O' : Int))) (.string (b)) (.string (d))
            rw [hV8]
            clear hV8 hr8
            refine hK.out _ _ ⟨hcell8 _ _ _ hnxm hHeld.1, hcell8 _ _ _ hnxm hHeld.2.1, hcell8 _ _ _ hnxm hHeld.2.2.1, hcell8 _ _ _ hnxm hHeld.2.2.2.1, hcell8 _ _ _ hnxm hHeld.2.2.2.2.1, hcell8 _ _ _ hnym hHeld.2.2.2.2.2.1, hcell8 _ _ _ hnym hHeld.2.2.2.2.2.2.1, hcell8 _ _ _ hnym hHeld.2.2.2.2.2.2.2.1, hcell8 _ _ _ hnym hHeld.2.2.2.2.2.2.2.2.1, hcell8 _ _ _ hnym hHeld.2.2.2.2.2.2.2.2.2.1, (hHeld.2.2.2.2.2.2.2.2.2.2).move hres8.frm (hheap8 _ hngm)⟩ (fun hHeld => ?_)
            clear hK K hcell8
            refine wpAnyH_done (by kernel_rfl) ?_ _
            obtain ⟨a0, a1, a2, a3, a4, b0, b1, b2, b3, b4, hres⟩ := hHeld
            go_wp2_with fail
            go_meet
            case rel => exact ⟨m, rfl, hrow8, ⟨a3, a4, b3, b4⟩, hres, hres8, hnxm, hnym, hngm⟩
        · skip
          go_simp
          have hrm := Res.start w _ HF.out
          have f1 := (Frm.refl (fun _ => False) V0).alloc (.cells #[.int .i64 0, .int .i64 0, .int .i64 0, .string ⟨#[]⟩, .string ⟨#[]⟩] 24)
          have hnxm : x ≠ V0.heap.size := fun e => by have := World.block_lt_of_cell? _ _ hHeld.1; simp only at this; omega
          have hnym : y ≠ V0.heap.size := fun e => by have := World.block_lt_of_cell? _ _ hHeld.2.2.2.2.2.1; simp only at this; omega
          have hngm : g ≠ V0.heap.size := fun e => by have := (hHeld.2.2.2.2.2.2.2.2.2.2).lt; omega
          obtain ⟨V1, hV1⟩ : ∃ V, V = V0.alloc (.cells #[.int .i64 0, .int .i64 0, .int .i64 0, .string ⟨#[]⟩, .string ⟨#[]⟩] 24) := ⟨_, rfl⟩
          obtain ⟨m, hm1⟩ : ∃ m, m = V0.heap.size := ⟨_, rfl⟩
          rw [← hV1, ← hm1] at hrm
          rw [← hV1] at f1
          rw [← hm1] at hnxm hnym hngm
          rw [← hV1, ← hm1]
          clear hV1 hm1
          have HF1 := Lib.hid (HF.out.trans f1)
          refine hK.out _ _ ⟨f1.cell hHeld.1 (fun h => h), f1.cell hHeld.2.1 (fun h => h), f1.cell hHeld.2.2.1 (fun h => h), f1.cell hHeld.2.2.2.1 (fun h => h), f1.cell hHeld.2.2.2.2.1 (fun h => h), f1.cell hHeld.2.2.2.2.2.1 (fun h => h), f1.cell hHeld.2.2.2.2.2.2.1 (fun h => h), f1.cell hHeld.2.2.2.2.2.2.2.1 (fun h => h), f1.cell hHeld.2.2.2.2.2.2.2.2.1 (fun h => h), f1.cell hHeld.2.2.2.2.2.2.2.2.2.1 (fun h => h), hHeld.2.2.2.2.2.2.2.2.2.2.still f1⟩ (fun hHeld => ?_)
          clear hK K f1 HF
          refine wpAnyH_ready (rs := [1]) (by kernel_rfl) (by simp) ?_
          refine AllReadyH.cons (o := ⟨some 14, _, _, _, _, _⟩) rfl (fun K hK => ?_) AllReadyH.nil
          go_simp
          refine (Hlow.out _).mono ?_
          rintro e V2 ⟨rfl, f2⟩
          have HF2 := Lib.hid (HF1.out.trans f2)
          have hrm := hrm.still f2
          refine hK.out _ _ ⟨f2.cell hHeld.1 (fun h => h), f2.cell hHeld.2.1 (fun h => h), f2.cell hHeld.2.2.1 (fun h => h), f2.cell hHeld.2.2.2.1 (fun h => h), f2.cell hHeld.2.2.2.2.1 (fun h => h), f2.cell hHeld.2.2.2.2.2.1 (fun h => h), f2.cell hHeld.2.2.2.2.2.2.1 (fun h => h), f2.cell hHeld.2.2.2.2.2.2.2.1 (fun h => h), f2.cell hHeld.2.2.2.2.2.2.2.2.1 (fun h => h), f2.cell hHeld.2.2.2.2.2.2.2.2.2.1 (fun h => h), hHeld.2.2.2.2.2.2.2.2.2.2.still f2⟩ (fun hHeld => ?_)
          clear hK K f2 HF1
          refine wpAnyH_ready (rs := [3]) (by kernel_rfl) (by simp) ?_
          refine AllReadyH.cons (o := ⟨some 16, _, _, _, _, _⟩) rfl (fun K hK => ?_) AllReadyH.nil
          go_simp
          refine (Hlow'.out _).mono ?_
          rintro e V3 ⟨rfl, f3⟩
          have HF3 := Lib.hid (HF2.out.trans f3)
          have hrm := hrm.still f3
          refine hK.out _ _ ⟨f3.cell hHeld.1 (fun h => h), f3.cell hHeld.2.1 (fun h => h), f3.cell hHeld.2.2.1 (fun h => h), f3.cell hHeld.2.2.2.1 (fun h => h), f3.cell hHeld.2.2.2.2.1 (fun h => h), f3.cell hHeld.2.2.2.2.2.1 (fun h => h), f3.cell hHeld.2.2.2.2.2.2.1 (fun h => h), f3.cell hHeld.2.2.2.2.2.2.2.1 (fun h => h), f3.cell hHeld.2.2.2.2.2.2.2.2.1 (fun h => h), f3.cell hHeld.2.2.2.2.2.2.2.2.2.1 (fun h => h), hHeld.2.2.2.2.2.2.2.2.2.2.still f3⟩ (fun hHeld => ?_)
          clear hK K f3 HF2
          refine wpAnyH_take (i := 4) (oi := ⟨some 17, _, _, _, _, _⟩) (v := (.int .i64 (max (L : Int) (L' : Int)))) rfl (by kernel_rfl) (by kernel_rfl) (by kernel_rfl) (fun _ _ _ h => h) (.inl ⟨by rfl, fun w hw => by dsimp only at hw; go_simp⟩) hHeld ?_
          simp only [Act.put, List.setIfInBounds_toArray, List.set_cons_zero, List.set_cons_succ]
          refine wpAnyH_ready (rs := [6]) (by kernel_rfl) (by simp) ?_
          refine AllReadyH.cons (o := ⟨some 19, _, _, _, _, _⟩) rfl (fun K hK => ?_) AllReadyH.nil
          go_simp
          refine (Hhigh.out _).mono ?_
          rintro e V4 ⟨rfl, f4⟩
          have HF4 := Lib.hid (HF3.out.trans f4)
          have hrm := hrm.still f4
          refine hK.out _ _ ⟨f4.cell hHeld.1 (fun h => h), f4.cell hHeld.2.1 (fun h => h), f4.cell hHeld.2.2.1 (fun h => h), f4.cell hHeld.2.2.2.1 (fun h => h), f4.cell hHeld.2.2.2.2.1 (fun h => h), f4.cell hHeld.2.2.2.2.2.1 (fun h => h), f4.cell hHeld.2.2.2.2.2.2.1 (fun h => h), f4.cell hHeld.2.2.2.2.2.2.2.1 (fun h => h), f4.cell hHeld.2.2.2.2.2.2.2.2.1 (fun h => h), f4.cell hHeld.2.2.2.2.2.2.2.2.2.1 (fun h => h), hHeld.2.2.2.2.2.2.2.2.2.2.still f4⟩ (fun hHeld => ?_)
          clear hK K f4 HF3
          refine wpAnyH_ready (rs := [8]) (by kernel_rfl) (by simp) ?_
          refine AllReadyH.cons (o := ⟨some 21, _, _, _, _, _⟩) rfl (fun K hK => ?_) AllReadyH.nil
          go_simp
          refine (Hhigh'.out _).mono ?_
          rintro e V5 ⟨rfl, f5⟩
          have HF5 := Lib.hid (HF4.out.trans f5)
          have hrm := hrm.still f5
          refine hK.out _ _ ⟨f5.cell hHeld.1 (fun h => h), f5.cell hHeld.2.1 (fun h => h), f5.cell hHeld.2.2.1 (fun h => h), f5.cell hHeld.2.2.2.1 (fun h => h), f5.cell hHeld.2.2.2.2.1 (fun h => h), f5.cell hHeld.2.2.2.2.2.1 (fun h => h), f5.cell hHeld.2.2.2.2.2.2.1 (fun h => h), f5.cell hHeld.2.2.2.2.2.2.2.1 (fun h => h), f5.cell hHeld.2.2.2.2.2.2.2.2.1 (fun h => h), f5.cell hHeld.2.2.2.2.2.2.2.2.2.1 (fun h => h), hHeld.2.2.2.2.2.2.2.2.2.2.still f5⟩ (fun hHeld => ?_)
          clear hK K f5 HF4
          refine wpAnyH_take (i := 9) (oi := ⟨some 22, _, _, _, _, _⟩) (v := (.int .i64 (min (H : Int) (H' : Int)))) rfl (by kernel_rfl) (by kernel_rfl) (by kernel_rfl) (fun _ _ _ h => h) (.inl ⟨by rfl, fun w hw => by dsimp only at hw; go_simp⟩) hHeld ?_
          simp only [Act.put, List.setIfInBounds_toArray, List.set_cons_zero, List.set_cons_succ]
          refine wpAnyH_ready (rs := [11]) (by kernel_rfl) (by simp) ?_
          refine AllReadyH.cons (o := ⟨some 24, _, _, _, _, _⟩) rfl (fun K hK => ?_) AllReadyH.nil
          go_simp
          refine (Hown.out _).mono ?_
          rintro e V6 ⟨rfl, f6⟩
          have HF6 := Lib.hid (HF5.out.trans f6)
          have hrm := hrm.still f6
          refine hK.out _ _ ⟨f6.cell hHeld.1 (fun h => h), f6.cell hHeld.2.1 (fun h => h), f6.cell hHeld.2.2.1 (fun h => h), f6.cell hHeld.2.2.2.1 (fun h => h), f6.cell hHeld.2.2.2.2.1 (fun h => h), f6.cell hHeld.2.2.2.2.2.1 (fun h => h), f6.cell hHeld.2.2.2.2.2.2.1 (fun h => h), f6.cell hHeld.2.2.2.2.2.2.2.1 (fun h => h), f6.cell hHeld.2.2.2.2.2.2.2.2.1 (fun h => h), f6.cell hHeld.2.2.2.2.2.2.2.2.2.1 (fun h => h), hHeld.2.2.2.2.2.2.2.2.2.2.still f6⟩ (fun hHeld => ?_)
          clear hK K f6 HF5
          refine wpAnyH_ready (rs := [13]) (by kernel_rfl) (by simp) ?_
          refine AllReadyH.cons (o := ⟨some 26, _, _, _, _, _⟩) rfl (fun K hK => ?_) AllReadyH.nil
          go_simp
          refine (Hown'.out _).mono ?_
          rintro e V7 ⟨rfl, f7⟩
          have HF7 := Lib.hid (HF6.out.trans f7)
          have hrm := hrm.still f7
          refine hK.out _ _ ⟨f7.cell hHeld.1 (fun h => h), f7.cell hHeld.2.1 (fun h => h), f7.cell hHeld.2.2.1 (fun h => h), f7.cell hHeld.2.2.2.1 (fun h => h), f7.cell hHeld.2.2.2.2.1 (fun h => h), f7.cell hHeld.2.2.2.2.2.1 (fun h => h), f7.cell hHeld.2.2.2.2.2.2.1 (fun h => h), f7.cell hHeld.2.2.2.2.2.2.2.1 (fun h => h), f7.cell hHeld.2.2.2.2.2.2.2.2.1 (fun h => h), f7.cell hHeld.2.2.2.2.2.2.2.2.2.1 (fun h => h), hHeld.2.2.2.2.2.2.2.2.2.2.still f7⟩ (fun hHeld => ?_)
          clear hK K f7 HF6
          refine wpAnyH_take (i := 14) (oi := ⟨some 27, _, _, _, _, _⟩) (v := (.int .i64 (bits .and .i64 (O : Int) (O' : Int)))) rfl (by kernel_rfl) (by kernel_rfl) (by kernel_rfl) (fun _ _ _ h => h) (.inl ⟨by rfl, fun w hw => by dsimp only at hw; go_simp⟩) hHeld ?_
          simp only [Act.put, List.setIfInBounds_toArray, List.set_cons_zero, List.set_cons_succ]
          refine wpAnyH_take (i := 19) (oi := ⟨some 32, _, _, _, _, _⟩) (v := (.agg #[.int .i64 (max (L : Int) (L' : Int)), .int .i64 (min (H : Int) (H' : Int)), .int .i64 (bits .and .i64 (O : Int) (O' : Int)), .string (b), .string (d)])) rfl (by kernel_rfl) (by kernel_rfl) (by kernel_rfl) (fun _ _ _ h => h) (.inl ⟨by rfl, fun w hw => by dsimp only at hw; go_simp⟩) hHeld ?_
          simp only [Act.put, List.setIfInBounds_toArray, List.set_cons_zero, List.set_cons_succ]
          refine wpAnyH_ready (rs := [21]) (by kernel_rfl) (by simp) ?_
          refine AllReadyH.cons (o := ⟨none, _, _, _, _, _⟩) rfl (fun K hK => ?_) AllReadyH.nil
          have hr8 := hrm
          obtain ⟨u0, u1, u2, u3, u4, ⟨c0, c1, c2, c3, c4⟩, z0, z1, z2, z3, z4⟩ := hr8.facts
          go_simp
          clear c0 c1 c2 c3 c4 z0 z1 z2 z3 z4
          obtain ⟨V8, hV8, hrow8, hres8, hcell8, hheap8⟩ := hr8.put2 (.int .i64 (max (L : Int) (L' : Int))) (.int .i64 (min (H : Int) (H' : Int))) (.int .i64 (bits .and .i64 (O : Int) (O' : Int))) (.string (b)) (.string (d))
          rw [hV8]
          clear hV8 hr8
          refine hK.out _ _ ⟨hcell8 _ _ _ hnxm hHeld.1, hcell8 _ _ _ hnxm hHeld.2.1, hcell8 _ _ _ hnxm hHeld.2.2.1, hcell8 _ _ _ hnxm hHeld.2.2.2.1, hcell8 _ _ _ hnxm hHeld.2.2.2.2.1, hcell8 _ _ _ hnym hHeld.2.2.2.2.2.1, hcell8 _ _ _ hnym hHeld.2.2.2.2.2.2.1, hcell8 _ _ _ hnym hHeld.2.2.2.2.2.2.2.1, hcell8 _ _ _ hnym hHeld.2.2.2.2.2.2.2.2.1, hcell8 _ _ _ hnym hHeld.2.2.2.2.2.2.2.2.2.1, (hHeld.2.2.2.2.2.2.2.2.2.2).move hres8.frm (hheap8 _ hngm)⟩ (fun hHeld => ?_)
          clear hK K hcell8
          refine wpAnyH_done (by kernel_rfl) ?_ _
          obtain ⟨a0, a1, a2, a3, a4, b0, b1, b2, b3, b4, hres⟩ := hHeld
          go_wp2_with fail
          go_meet
          case rel => exact ⟨m, rfl, hrow8, ⟨a3, a4, b3, b4⟩, hres, hres8, hnxm, hnym, hngm⟩
      case rest =>
        clear hres a0 a1 a2 a3 a4 b0 b1 b2 b3 b4
        obtain ⟨m, rfl, hrow, ⟨a3, a4, b3, b4⟩, hres, hrm, hnxm, hnym, hngm⟩ := hcut
        clear Hlow Hlow' Hhigh Hhigh' Hown Hown' hL0 HF
        by_cases s1 : b.size < b'.size
        · by_cases s2 : d.size < d'.size
          · skip
            have HJ2 := Lib.hid (HJ.out b' d' (by rw [if_pos s1]) (by rw [if_pos s2]))
            have hp1 := Hp1.out b'
            have hp2 := Hp2.out b'
            have hs1 := Hs1.out d' (by omega)
            have hs2 := Hs2.out d' (by omega)
            have hem := Hem.out b' d' (by omega) (by omega)
            clear HJ Hp1 Hp2 Hs1 Hs2 Hem
            generalize b.data.toList.isPrefixOf b'.data.toList = B1 at *
            generalize b'.data.toList.isPrefixOf b'.data.toList = B2 at *
            generalize d.data.toList.isSuffixOf d'.data.toList = B3 at *
            generalize d'.data.toList.isSuffixOf d'.data.toList = B4 at *
            generalize empB ⟨max L L', min H H', bits .and .i64 O O', b', d'⟩ = E3 at *
            have Hp1 := Lib.hid hp1
            clear hp1
            have Hp2 := Lib.hid hp2
            clear hp2
            have Hs1 := Lib.hid hs1
            clear hs1
            have Hs2 := Lib.hid hs2
            clear hs2
            have Hem := Lib.hid hem
            clear hem
            have s1' : (b.size : Int) < (b'.size : Int) := by omega
            have s2' : (d.size : Int) < (d'.size : Int) := by omega
            obtain ⟨⟨k0, k1, k2, k3, k4⟩, z0, z1, z2, z3, z4⟩ := row_facts hrow
            go_upto_region 8 with fail
            clear k0 k1 k2 k3 k4 z0 z1 z2 z3 z4 s1 s1' s2 s2'
            obtain ⟨W3, hW3, hrow, hfr, hcell, hheap⟩ := hrm.field hrow 3 (.string b')
            rw [hW3]
            clear hW3
            have a3 := hcell _ _ _ hnxm a3
            have b3 := hcell _ _ _ hnym b3
            have a4 := hcell _ _ _ hnxm a4
            have b4 := hcell _ _ _ hnym b4
            have hres := hres.move hfr (hheap _ hngm)
            have hrm : Res w _ m := ⟨hfr, hrm.new, _, _, _, _, _, hrow⟩
            clear hfr hcell hheap
            obtain ⟨W4, hW4, hrow, hfr, hcell, hheap⟩ := hrm.field hrow 4 (.string d')
            rw [hW4]
            clear hW4
            have a3 := hcell _ _ _ hnxm a3
            have b3 := hcell _ _ _ hnym b3
            have a4 := hcell _ _ _ hnxm a4
            have b4 := hcell _ _ _ hnym b4
            have hres := hres.move hfr (hheap _ hngm)
            have hrm : Res w _ m := ⟨hfr, hrm.new, _, _, _, _, _, hrow⟩
            clear hfr hcell hheap
            have hrow : _ = some (Obj.cells #[.int .i64 (max L L'), .int .i64 (min H H'), .int .i64 (bits .and .i64 O O'), .string b', .string d'] 24 (0, 0)) := hrow
            obtain ⟨⟨k0, k1, k2, k3, k4⟩, -⟩ := row_facts hrow
            clear hrow hrm hnxg hnyg hnxm hnym hngm
            go_wp2_with fail
            refine (Hp1.out _).mono ?_
            rintro e V5 ⟨rfl, rfl⟩
            cases B1
            · have HR : Hid (R = none') := Lib.hid (by rw [HJ2.out]; rfl)
              go_wp2_with fail
              refine (Hnone.out _).mono ?_
              rintro e V9 ⟨rfl, f9⟩
              have hres := hres.still f9
              clear f9
              obtain ⟨u0, u1, u2, u3, u4, ⟨c0, c1, c2, c3, c4⟩, z0, z1, z2, z3, z4⟩ := hres.facts
              have Hr := Lib.hid hres
              clear hres
              go_wp2_with fail
              exact Hr.out.ret Tryz.results17 rfl rfl fun W f => ⟨by rw [HR.out]; rfl, f⟩
            · go_wp2_with fail
              refine (Hp2.out _).mono ?_
              rintro e V5 ⟨rfl, rfl⟩
              cases B2
              · have HR : Hid (R = none') := Lib.hid (by rw [HJ2.out]; rfl)
                go_wp2_with fail
                refine (Hnone.out _).mono ?_
                rintro e V9 ⟨rfl, f9⟩
                have hres := hres.still f9
                clear f9
                obtain ⟨u0, u1, u2, u3, u4, ⟨c0, c1, c2, c3, c4⟩, z0, z1, z2, z3, z4⟩ := hres.facts
                have Hr := Lib.hid hres
                clear hres
                go_wp2_with fail
                exact Hr.out.ret Tryz.results17 rfl rfl fun W f => ⟨by rw [HR.out]; rfl, f⟩
              · go_wp2_with fail
                refine (Hs1.out _).mono ?_
                rintro e V5 ⟨rfl, rfl⟩
                cases B3
                · have HR : Hid (R = none') := Lib.hid (by rw [HJ2.out]; rfl)
                  go_wp2_with fail
                  refine (Hnone.out _).mono ?_
                  rintro e V9 ⟨rfl, f9⟩
                  have hres := hres.still f9
                  clear f9
                  obtain ⟨u0, u1, u2, u3, u4, ⟨c0, c1, c2, c3, c4⟩, z0, z1, z2, z3, z4⟩ := hres.facts
                  have Hr := Lib.hid hres
                  clear hres
                  go_wp2_with fail
                  exact Hr.out.ret Tryz.results17 rfl rfl fun W f => ⟨by rw [HR.out]; rfl, f⟩
                · go_wp2_with fail
                  refine (Hs2.out _).mono ?_
                  rintro e V5 ⟨rfl, rfl⟩
                  cases B4
                  · have HR : Hid (R = none') := Lib.hid (by rw [HJ2.out]; rfl)
                    go_wp2_with fail
                    refine (Hnone.out _).mono ?_
                    rintro e V9 ⟨rfl, f9⟩
                    have hres := hres.still f9
                    clear f9
                    obtain ⟨u0, u1, u2, u3, u4, ⟨c0, c1, c2, c3, c4⟩, z0, z1, z2, z3, z4⟩ := hres.facts
                    have Hr := Lib.hid hres
                    clear hres
                    go_wp2_with fail
                    exact Hr.out.ret Tryz.results17 rfl rfl fun W f => ⟨by rw [HR.out]; rfl, f⟩
                  · go_wp2_with fail
                    refine (Hem.out _).mono ?_
                    rintro e V6 ⟨rfl, f6⟩
                    have k0 := f6.cell k0 (fun h => h)
                    have k1 := f6.cell k1 (fun h => h)
                    have k2 := f6.cell k2 (fun h => h)
                    have k3 := f6.cell k3 (fun h => h)
                    have k4 := f6.cell k4 (fun h => h)
                    have hres := hres.still f6
                    clear f6
                    cases E3
                    · have HR : Hid (R = ⟨max L L', min H H', bits .and .i64 O O', b', d'⟩) := Lib.hid (by rw [HJ2.out]; rfl)
                      obtain ⟨u0, u1, u2, u3, u4, ⟨c0, c1, c2, c3, c4⟩, z0, z1, z2, z3, z4⟩ := hres.facts
                      have Hr := Lib.hid hres
                      clear hres
                      go_wp2_with fail
                      exact Hr.out.ret Tryz.results17 rfl rfl fun W f => ⟨by rw [HR.out], f⟩
                    · have HR : Hid (R = none') := Lib.hid (by rw [HJ2.out]; rfl)
                      go_wp2_with fail
                      refine (Hnone.out _).mono ?_
                      rintro e V9 ⟨rfl, f9⟩
                      have hres := hres.still f9
                      clear f9
                      obtain ⟨u0, u1, u2, u3, u4, ⟨c0, c1, c2, c3, c4⟩, z0, z1, z2, z3, z4⟩ := hres.facts
                      have Hr := Lib.hid hres
                      clear hres
                      go_wp2_with fail
                      exact Hr.out.ret Tryz.results17 rfl rfl fun W f => ⟨by rw [HR.out]; rfl, f⟩
          · skip
            have HJ2 := Lib.hid (HJ.out b' d (by rw [if_pos s1]) (by rw [if_neg s2]))
            have hp1 := Hp1.out b'
            have hp2 := Hp2.out b'
            have hs1 := Hs1.out d (by omega)
            have hs2 := Hs2.out d (by omega)
            have hem := Hem.out b' d (by omega) (by omega)
            clear HJ Hp1 Hp2 Hs1 Hs2 Hem
            generalize b.data.toList.isPrefixOf b'.data.toList = B1 at *
            generalize b'.data.toList.isPrefixOf b'.data.toList = B2 at *
            generalize d.data.toList.isSuffixOf d.data.toList = B3 at *
            generalize d'.data.toList.isSuffixOf d.data.toList = B4 at *
            generalize empB ⟨max L L', min H H', bits .and .i64 O O', b', d⟩ = E3 at *
            have Hp1 := Lib.hid hp1
            clear hp1
            have Hp2 := Lib.hid hp2
            clear hp2
            have Hs1 := Lib.hid hs1
            clear hs1
            have Hs2 := Lib.hid hs2
            clear hs2
            have Hem := Lib.hid hem
            clear hem
            have s1' : (b.size : Int) < (b'.size : Int) := by omega
            have s2' : ¬ (d.size : Int) < (d'.size : Int) := by omega
            obtain ⟨⟨k0, k1, k2, k3, k4⟩, z0, z1, z2, z3, z4⟩ := row_facts hrow
            go_upto_region 8 with fail
            clear k0 k1 k2 k3 k4 z0 z1 z2 z3 z4 s1 s1' s2 s2'
            obtain ⟨W3, hW3, hrow, hfr, hcell, hheap⟩ := hrm.field hrow 3 (.string b')
            rw [hW3]
            clear hW3
            have a3 := hcell _ _ _ hnxm a3
            have b3 := hcell _ _ _ hnym b3
            have a4 := hcell _ _ _ hnxm a4
            have b4 := hcell _ _ _ hnym b4
            have hres := hres.move hfr (hheap _ hngm)
            have hrm : Res w _ m := ⟨hfr, hrm.new, _, _, _, _, _, hrow⟩
            clear hfr hcell hheap
            have hrow : _ = some (Obj.cells #[.int .i64 (max L L'), .int .i64 (min H H'), .int .i64 (bits .and .i64 O O'), .string b', .string d] 24 (0, 0)) := hrow
            obtain ⟨⟨k0, k1, k2, k3, k4⟩, -⟩ := row_facts hrow
            clear hrow hrm hnxg hnyg hnxm hnym hngm
            go_wp2_with fail
            refine (Hp1.out _).mono ?_
            rintro e V5 ⟨rfl, rfl⟩
            cases B1
            · have HR : Hid (R = none') := Lib.hid (by rw [HJ2.out]; rfl)
              go_wp2_with fail
              refine (Hnone.out _).mono ?_
              rintro e V9 ⟨rfl, f9⟩
              have hres := hres.still f9
              clear f9
              obtain ⟨u0, u1, u2, u3, u4, ⟨c0, c1, c2, c3, c4⟩, z0, z1, z2, z3, z4⟩ := hres.facts
              have Hr := Lib.hid hres
              clear hres
              go_wp2_with fail
              exact Hr.out.ret Tryz.results17 rfl rfl fun W f => ⟨by rw [HR.out]; rfl, f⟩
            · go_wp2_with fail
              refine (Hp2.out _).mono ?_
              rintro e V5 ⟨rfl, rfl⟩
              cases B2
              · have HR : Hid (R = none') := Lib.hid (by rw [HJ2.out]; rfl)
                go_wp2_with fail
                refine (Hnone.out _).mono ?_
                rintro e V9 ⟨rfl, f9⟩
                have hres := hres.still f9
                clear f9
                obtain ⟨u0, u1, u2, u3, u4, ⟨c0, c1, c2, c3, c4⟩, z0, z1, z2, z3, z4⟩ := hres.facts
                have Hr := Lib.hid hres
                clear hres
                go_wp2_with fail
                exact Hr.out.ret Tryz.results17 rfl rfl fun W f => ⟨by rw [HR.out]; rfl, f⟩
              · go_wp2_with fail
                refine (Hs1.out _).mono ?_
                rintro e V5 ⟨rfl, rfl⟩
                cases B3
                · have HR : Hid (R = none') := Lib.hid (by rw [HJ2.out]; rfl)
                  go_wp2_with fail
                  refine (Hnone.out _).mono ?_
                  rintro e V9 ⟨rfl, f9⟩
                  have hres := hres.still f9
                  clear f9
                  obtain ⟨u0, u1, u2, u3, u4, ⟨c0, c1, c2, c3, c4⟩, z0, z1, z2, z3, z4⟩ := hres.facts
                  have Hr := Lib.hid hres
                  clear hres
                  go_wp2_with fail
                  exact Hr.out.ret Tryz.results17 rfl rfl fun W f => ⟨by rw [HR.out]; rfl, f⟩
                · go_wp2_with fail
                  refine (Hs2.out _).mono ?_
                  rintro e V5 ⟨rfl, rfl⟩
                  cases B4
                  · have HR : Hid (R = none') := Lib.hid (by rw [HJ2.out]; rfl)
                    go_wp2_with fail
                    refine (Hnone.out _).mono ?_
                    rintro e V9 ⟨rfl, f9⟩
                    have hres := hres.still f9
                    clear f9
                    obtain ⟨u0, u1, u2, u3, u4, ⟨c0, c1, c2, c3, c4⟩, z0, z1, z2, z3, z4⟩ := hres.facts
                    have Hr := Lib.hid hres
                    clear hres
                    go_wp2_with fail
                    exact Hr.out.ret Tryz.results17 rfl rfl fun W f => ⟨by rw [HR.out]; rfl, f⟩
                  · go_wp2_with fail
                    refine (Hem.out _).mono ?_
                    rintro e V6 ⟨rfl, f6⟩
                    have k0 := f6.cell k0 (fun h => h)
                    have k1 := f6.cell k1 (fun h => h)
                    have k2 := f6.cell k2 (fun h => h)
                    have k3 := f6.cell k3 (fun h => h)
                    have k4 := f6.cell k4 (fun h => h)
                    have hres := hres.still f6
                    clear f6
                    cases E3
                    · have HR : Hid (R = ⟨max L L', min H H', bits .and .i64 O O', b', d⟩) := Lib.hid (by rw [HJ2.out]; rfl)
                      obtain ⟨u0, u1, u2, u3, u4, ⟨c0, c1, c2, c3, c4⟩, z0, z1, z2, z3, z4⟩ := hres.facts
                      have Hr := Lib.hid hres
                      clear hres
                      go_wp2_with fail
                      exact Hr.out.ret Tryz.results17 rfl rfl fun W f => ⟨by rw [HR.out], f⟩
                    · have HR : Hid (R = none') := Lib.hid (by rw [HJ2.out]; rfl)
                      go_wp2_with fail
                      refine (Hnone.out _).mono ?_
                      rintro e V9 ⟨rfl, f9⟩
                      have hres := hres.still f9
                      clear f9
                      obtain ⟨u0, u1, u2, u3, u4, ⟨c0, c1, c2, c3, c4⟩, z0, z1, z2, z3, z4⟩ := hres.facts
                      have Hr := Lib.hid hres
                      clear hres
                      go_wp2_with fail
                      exact Hr.out.ret Tryz.results17 rfl rfl fun W f => ⟨by rw [HR.out]; rfl, f⟩
        · by_cases s2 : d.size < d'.size
          · skip
            have HJ2 := Lib.hid (HJ.out b d' (by rw [if_neg s1]) (by rw [if_pos s2]))
            have hp1 := Hp1.out b
            have hp2 := Hp2.out b
            have hs1 := Hs1.out d' (by omega)
            have hs2 := Hs2.out d' (by omega)
            have hem := Hem.out b d' (by omega) (by omega)
            clear HJ Hp1 Hp2 Hs1 Hs2 Hem
            generalize b.data.toList.isPrefixOf b.data.toList = B1 at *
            generalize b'.data.toList.isPrefixOf b.data.toList = B2 at *
            generalize d.data.toList.isSuffixOf d'.data.toList = B3 at *
            generalize d'.data.toList.isSuffixOf d'.data.toList = B4 at *
            generalize empB ⟨max L L', min H H', bits .and .i64 O O', b, d'⟩ = E3 at *
            have Hp1 := Lib.hid hp1
            clear hp1
            have Hp2 := Lib.hid hp2
            clear hp2
            have Hs1 := Lib.hid hs1
            clear hs1
            have Hs2 := Lib.hid hs2
            clear hs2
            have Hem := Lib.hid hem
            clear hem
            have s1' : ¬ (b.size : Int) < (b'.size : Int) := by omega
            have s2' : (d.size : Int) < (d'.size : Int) := by omega
            obtain ⟨⟨k0, k1, k2, k3, k4⟩, z0, z1, z2, z3, z4⟩ := row_facts hrow
            go_upto_region 8 with fail
            clear k0 k1 k2 k3 k4 z0 z1 z2 z3 z4 s1 s1' s2 s2'
            obtain ⟨W4, hW4, hrow, hfr, hcell, hheap⟩ := hrm.field hrow 4 (.string d')
            rw [hW4]
            clear hW4
            have a3 := hcell _ _ _ hnxm a3
            have b3 := hcell _ _ _ hnym b3
            have a4 := hcell _ _ _ hnxm a4
            have b4 := hcell _ _ _ hnym b4
            have hres := hres.move hfr (hheap _ hngm)
            have hrm : Res w _ m := ⟨hfr, hrm.new, _, _, _, _, _, hrow⟩
            clear hfr hcell hheap
            have hrow : _ = some (Obj.cells #[.int .i64 (max L L'), .int .i64 (min H H'), .int .i64 (bits .and .i64 O O'), .string b, .string d'] 24 (0, 0)) := hrow
            obtain ⟨⟨k0, k1, k2, k3, k4⟩, -⟩ := row_facts hrow
            clear hrow hrm hnxg hnyg hnxm hnym hngm
            go_wp2_with fail
            refine (Hp1.out _).mono ?_
            rintro e V5 ⟨rfl, rfl⟩
            cases B1
            · have HR : Hid (R = none') := Lib.hid (by rw [HJ2.out]; rfl)
              go_wp2_with fail
              refine (Hnone.out _).mono ?_
              rintro e V9 ⟨rfl, f9⟩
              have hres := hres.still f9
              clear f9
              obtain ⟨u0, u1, u2, u3, u4, ⟨c0, c1, c2, c3, c4⟩, z0, z1, z2, z3, z4⟩ := hres.facts
              have Hr := Lib.hid hres
              clear hres
              go_wp2_with fail
              exact Hr.out.ret Tryz.results17 rfl rfl fun W f => ⟨by rw [HR.out]; rfl, f⟩
            · go_wp2_with fail
              refine (Hp2.out _).mono ?_
              rintro e V5 ⟨rfl, rfl⟩
              cases B2
              · have HR : Hid (R = none') := Lib.hid (by rw [HJ2.out]; rfl)
                go_wp2_with fail
                refine (Hnone.out _).mono ?_
                rintro e V9 ⟨rfl, f9⟩
                have hres := hres.still f9
                clear f9
                obtain ⟨u0, u1, u2, u3, u4, ⟨c0, c1, c2, c3, c4⟩, z0, z1, z2, z3, z4⟩ := hres.facts
                have Hr := Lib.hid hres
                clear hres
                go_wp2_with fail
                exact Hr.out.ret Tryz.results17 rfl rfl fun W f => ⟨by rw [HR.out]; rfl, f⟩
              · go_wp2_with fail
                refine (Hs1.out _).mono ?_
                rintro e V5 ⟨rfl, rfl⟩
                cases B3
                · have HR : Hid (R = none') := Lib.hid (by rw [HJ2.out]; rfl)
                  go_wp2_with fail
                  refine (Hnone.out _).mono ?_
                  rintro e V9 ⟨rfl, f9⟩
                  have hres := hres.still f9
                  clear f9
                  obtain ⟨u0, u1, u2, u3, u4, ⟨c0, c1, c2, c3, c4⟩, z0, z1, z2, z3, z4⟩ := hres.facts
                  have Hr := Lib.hid hres
                  clear hres
                  go_wp2_with fail
                  exact Hr.out.ret Tryz.results17 rfl rfl fun W f => ⟨by rw [HR.out]; rfl, f⟩
                · go_wp2_with fail
                  refine (Hs2.out _).mono ?_
                  rintro e V5 ⟨rfl, rfl⟩
                  cases B4
                  · have HR : Hid (R = none') := Lib.hid (by rw [HJ2.out]; rfl)
                    go_wp2_with fail
                    refine (Hnone.out _).mono ?_
                    rintro e V9 ⟨rfl, f9⟩
                    have hres := hres.still f9
                    clear f9
                    obtain ⟨u0, u1, u2, u3, u4, ⟨c0, c1, c2, c3, c4⟩, z0, z1, z2, z3, z4⟩ := hres.facts
                    have Hr := Lib.hid hres
                    clear hres
                    go_wp2_with fail
                    exact Hr.out.ret Tryz.results17 rfl rfl fun W f => ⟨by rw [HR.out]; rfl, f⟩
                  · go_wp2_with fail
                    refine (Hem.out _).mono ?_
                    rintro e V6 ⟨rfl, f6⟩
                    have k0 := f6.cell k0 (fun h => h)
                    have k1 := f6.cell k1 (fun h => h)
                    have k2 := f6.cell k2 (fun h => h)
                    have k3 := f6.cell k3 (fun h => h)
                    have k4 := f6.cell k4 (fun h => h)
                    have hres := hres.still f6
                    clear f6
                    cases E3
                    · have HR : Hid (R = ⟨max L L', min H H', bits .and .i64 O O', b, d'⟩) := Lib.hid (by rw [HJ2.out]; rfl)
                      obtain ⟨u0, u1, u2, u3, u4, ⟨c0, c1, c2, c3, c4⟩, z0, z1, z2, z3, z4⟩ := hres.facts
                      have Hr := Lib.hid hres
                      clear hres
                      go_wp2_with fail
                      exact Hr.out.ret Tryz.results17 rfl rfl fun W f => ⟨by rw [HR.out], f⟩
                    · have HR : Hid (R = none') := Lib.hid (by rw [HJ2.out]; rfl)
                      go_wp2_with fail
                      refine (Hnone.out _).mono ?_
                      rintro e V9 ⟨rfl, f9⟩
                      have hres := hres.still f9
                      clear f9
                      obtain ⟨u0, u1, u2, u3, u4, ⟨c0, c1, c2, c3, c4⟩, z0, z1, z2, z3, z4⟩ := hres.facts
                      have Hr := Lib.hid hres
                      clear hres
                      go_wp2_with fail
                      exact Hr.out.ret Tryz.results17 rfl rfl fun W f => ⟨by rw [HR.out]; rfl, f⟩
          · skip
            have HJ2 := Lib.hid (HJ.out b d (by rw [if_neg s1]) (by rw [if_neg s2]))
            have hp1 := Hp1.out b
            have hp2 := Hp2.out b
            have hs1 := Hs1.out d (by omega)
            have hs2 := Hs2.out d (by omega)
            have hem := Hem.out b d (by omega) (by omega)
            clear HJ Hp1 Hp2 Hs1 Hs2 Hem
            generalize b.data.toList.isPrefixOf b.data.toList = B1 at *
            generalize b'.data.toList.isPrefixOf b.data.toList = B2 at *
            generalize d.data.toList.isSuffixOf d.data.toList = B3 at *
            generalize d'.data.toList.isSuffixOf d.data.toList = B4 at *
            generalize empB ⟨max L L', min H H', bits .and .i64 O O', b, d⟩ = E3 at *
            have Hp1 := Lib.hid hp1
            clear hp1
            have Hp2 := Lib.hid hp2
            clear hp2
            have Hs1 := Lib.hid hs1
            clear hs1
            have Hs2 := Lib.hid hs2
            clear hs2
            have Hem := Lib.hid hem
            clear hem
            have s1' : ¬ (b.size : Int) < (b'.size : Int) := by omega
            have s2' : ¬ (d.size : Int) < (d'.size : Int) := by omega
            obtain ⟨⟨k0, k1, k2, k3, k4⟩, z0, z1, z2, z3, z4⟩ := row_facts hrow
            go_upto_region 8 with fail
            clear k0 k1 k2 k3 k4 z0 z1 z2 z3 z4 s1 s1' s2 s2'
            have hrow : _ = some (Obj.cells #[.int .i64 (max L L'), .int .i64 (min H H'), .int .i64 (bits .and .i64 O O'), .string b, .string d] 24 (0, 0)) := hrow
            obtain ⟨⟨k0, k1, k2, k3, k4⟩, -⟩ := row_facts hrow
            clear hrow hrm hnxg hnyg hnxm hnym hngm
            go_wp2_with fail
            refine (Hp1.out _).mono ?_
            rintro e V5 ⟨rfl, rfl⟩
            cases B1
            · have HR : Hid (R = none') := Lib.hid (by rw [HJ2.out]; rfl)
              go_wp2_with fail
              refine (Hnone.out _).mono ?_
              rintro e V9 ⟨rfl, f9⟩
              have hres := hres.still f9
              clear f9
              obtain ⟨u0, u1, u2, u3, u4, ⟨c0, c1, c2, c3, c4⟩, z0, z1, z2, z3, z4⟩ := hres.facts
              have Hr := Lib.hid hres
              clear hres
              go_wp2_with fail
              exact Hr.out.ret Tryz.results17 rfl rfl fun W f => ⟨by rw [HR.out]; rfl, f⟩
            · go_wp2_with fail
              refine (Hp2.out _).mono ?_
              rintro e V5 ⟨rfl, rfl⟩
              cases B2
              · have HR : Hid (R = none') := Lib.hid (by rw [HJ2.out]; rfl)
                go_wp2_with fail
                refine (Hnone.out _).mono ?_
                rintro e V9 ⟨rfl, f9⟩
                have hres := hres.still f9
                clear f9
                obtain ⟨u0, u1, u2, u3, u4, ⟨c0, c1, c2, c3, c4⟩, z0, z1, z2, z3, z4⟩ := hres.facts
                have Hr := Lib.hid hres
                clear hres
                go_wp2_with fail
                exact Hr.out.ret Tryz.results17 rfl rfl fun W f => ⟨by rw [HR.out]; rfl, f⟩
              · go_wp2_with fail
                refine (Hs1.out _).mono ?_
                rintro e V5 ⟨rfl, rfl⟩
                cases B3
                · have HR : Hid (R = none') := Lib.hid (by rw [HJ2.out]; rfl)
                  go_wp2_with fail
                  refine (Hnone.out _).mono ?_
                  rintro e V9 ⟨rfl, f9⟩
                  have hres := hres.still f9
                  clear f9
                  obtain ⟨u0, u1, u2, u3, u4, ⟨c0, c1, c2, c3, c4⟩, z0, z1, z2, z3, z4⟩ := hres.facts
                  have Hr := Lib.hid hres
                  clear hres
                  go_wp2_with fail
                  exact Hr.out.ret Tryz.results17 rfl rfl fun W f => ⟨by rw [HR.out]; rfl, f⟩
                · go_wp2_with fail
                  refine (Hs2.out _).mono ?_
                  rintro e V5 ⟨rfl, rfl⟩
                  cases B4
                  · have HR : Hid (R = none') := Lib.hid (by rw [HJ2.out]; rfl)
                    go_wp2_with fail
                    refine (Hnone.out _).mono ?_
                    rintro e V9 ⟨rfl, f9⟩
                    have hres := hres.still f9
                    clear f9
                    obtain ⟨u0, u1, u2, u3, u4, ⟨c0, c1, c2, c3, c4⟩, z0, z1, z2, z3, z4⟩ := hres.facts
                    have Hr := Lib.hid hres
                    clear hres
                    go_wp2_with fail
                    exact Hr.out.ret Tryz.results17 rfl rfl fun W f => ⟨by rw [HR.out]; rfl, f⟩
                  · go_wp2_with fail
                    refine (Hem.out _).mono ?_
                    rintro e V6 ⟨rfl, f6⟩
                    have k0 := f6.cell k0 (fun h => h)
                    have k1 := f6.cell k1 (fun h => h)
                    have k2 := f6.cell k2 (fun h => h)
                    have k3 := f6.cell k3 (fun h => h)
                    have k4 := f6.cell k4 (fun h => h)
                    have hres := hres.still f6
                    clear f6
                    cases E3
                    · have HR : Hid (R = ⟨max L L', min H H', bits .and .i64 O O', b, d⟩) := Lib.hid (by rw [HJ2.out]; rfl)
                      obtain ⟨u0, u1, u2, u3, u4, ⟨c0, c1, c2, c3, c4⟩, z0, z1, z2, z3, z4⟩ := hres.facts
                      have Hr := Lib.hid hres
                      clear hres
                      go_wp2_with fail
                      exact Hr.out.ret Tryz.results17 rfl rfl fun W f => ⟨by rw [HR.out], f⟩
                    · have HR : Hid (R = none') := Lib.hid (by rw [HJ2.out]; rfl)
                      go_wp2_with fail
                      refine (Hnone.out _).mono ?_
                      rintro e V9 ⟨rfl, f9⟩
                      have hres := hres.still f9
                      clear f9
                      obtain ⟨u0, u1, u2, u3, u4, ⟨c0, c1, c2, c3, c4⟩, z0, z1, z2, z3, z4⟩ := hres.facts
                      have Hr := Lib.hid hres
                      clear hres
                      go_wp2_with fail
                      exact Hr.out.ret Tryz.results17 rfl rfl fun W f => ⟨by rw [HR.out]; rfl, f⟩
    · have Hemp' := Lib.hid hemp'
      clear hemp'
      go_wp2_with fail
      refine (Hemp'.out _).mono ?_
      rintro e V2 ⟨rfl, f2⟩
      have a0 := f2.cell a0 (fun h => h)
      have a1 := f2.cell a1 (fun h => h)
      have a2 := f2.cell a2 (fun h => h)
      have a3 := f2.cell a3 (fun h => h)
      have a4 := f2.cell a4 (fun h => h)
      have b0 := f2.cell b0 (fun h => h)
      have b1 := f2.cell b1 (fun h => h)
      have b2 := f2.cell b2 (fun h => h)
      have b3 := f2.cell b3 (fun h => h)
      have b4 := f2.cell b4 (fun h => h)
      have hres := hres.still f2
      clear f2
      have HR : Hid (R = none') := Lib.hid (by rw [HJ.out _ _ rfl rfl]; rfl)
      go_wp2_with fail
      refine (Hnone.out _).mono ?_
      rintro e V9 ⟨rfl, f9⟩
      have hres := hres.still f9
      clear f9
      obtain ⟨u0, u1, u2, u3, u4, ⟨c0, c1, c2, c3, c4⟩, z0, z1, z2, z3, z4⟩ := hres.facts
      have Hr := Lib.hid hres
      clear hres
      go_wp2_with fail
      exact Hr.out.ret Tryz.results17 rfl rfl fun W f => ⟨by rw [HR.out]; rfl, f⟩
  · have Hemp := Lib.hid hemp
    clear hemp
    go_wp2_with fail
    refine (Hemp.out _).mono ?_
    rintro e V1 ⟨rfl, f1⟩
    have a0 := f1.cell a0 (fun h => h)
    have a1 := f1.cell a1 (fun h => h)
    have a2 := f1.cell a2 (fun h => h)
    have a3 := f1.cell a3 (fun h => h)
    have a4 := f1.cell a4 (fun h => h)
    have b0 := f1.cell b0 (fun h => h)
    have b1 := f1.cell b1 (fun h => h)
    have b2 := f1.cell b2 (fun h => h)
    have b3 := f1.cell b3 (fun h => h)
    have b4 := f1.cell b4 (fun h => h)
    have hres := hres.still f1
    clear f1
    have HR : Hid (R = none') := Lib.hid (by rw [HJ.out _ _ rfl rfl]; rfl)
    go_wp2_with fail
    refine (Hnone.out _).mono ?_
    rintro e V9 ⟨rfl, f9⟩
    have hres := hres.still f9
    clear f9
    obtain ⟨u0, u1, u2, u3, u4, ⟨c0, c1, c2, c3, c4⟩, z0, z1, z2, z3, z4⟩ := hres.facts
    have Hr := Lib.hid hres
    clear hres
    go_wp2_with fail
    exact Hr.out.ret Tryz.results17 rfl rfl fun W f => ⟨by rw [HR.out]; rfl, f⟩
end Go.Proofs.YtgnjakaamgeibaaGreatDoor
namespace Go.Proofs.YtgnjakaamgeibaaGreatDoor
open Go.RowKit Go.Shelf
attribute [local go_sem] Oper.semAt_some
set_option maxRecDepth 100000 in
set_option maxHeartbeats 4000000 in
theorem fixed_any (p : Shp) (w : World) : Calls Tryz.prog 46 #[shV p] w fun e w' => e = .returned (.bool (fixedB p)) ∧ Frm (fun _ => False) w w' := by
  have hlow := least_any p
  have hhigh := most_any p
  have hJ : fixedB p = (decide (lowS p = highS p) && decide (lowS p = p.bg.size)) := rfl
  generalize fixedB p = R at *
  generalize lowS p = L at *
  generalize highS p = H at *
  obtain ⟨l, h, c, b, d⟩ := p
  unfold shV at *
  simp only at hlow hhigh hJ ⊢
  have Hlow := Lib.hid hlow
  have Hhigh := Lib.hid hhigh
  have HJ := Lib.hid hJ
  clear hlow hhigh hJ
  go_enter Tryz.func46, Tryz.ntmps46
  go_upto_region 1 with fail
  obtain ⟨W1, x, hW, hx, hf, a0, a1, a2, a3, a4⟩ := one_sh w l h c b d
  rw [hW, hx]
  have HG := Lib.hid hf.drew
  clear hW hx hf
  by_cases e1 : L = H
  · have e1b : (L == H) = true := by rw [beq_iff_eq]; exact e1
    by_cases e2 : L = (b.size : Int)
    · have e2b : (L == (b.size : Int)) = true := by rw [beq_iff_eq]; exact e2
      have HR : Hid (R = true) := Lib.hid (by rw [HJ.out, decide_eq_true e1, decide_eq_true e2]; rfl)
      clear HJ e1 e2
      refine wp_region_held_drew (S := fun w' => w'.cell? ⟨x, 0, none⟩ = some (.int .i64 (l)) ∧ w'.cell? ⟨x, 1, none⟩ = some (.int .i64 (h)) ∧ w'.cell? ⟨x, 2, none⟩ = some (.int .i64 (c)) ∧ w'.cell? ⟨x, 3, none⟩ = some (.string (b)) ∧ w'.cell? ⟨x, 4, none⟩ = some (.string (d))) (by kernel_rfl) ⟨a0, a1, a2, a3, a4⟩ (fun hHeld => ?_)
      refine wpAnyH_take (i := 0) (oi := ⟨some 3, _, _, _, _, _⟩) (v := (.agg #[.int .i64 (l), .int .i64 (h), .int .i64 (c), .string (b), .string (d)])) rfl (by kernel_rfl) (by kernel_rfl) (by kernel_rfl) (fun _ _ _ h => h) (.inl ⟨by rfl, fun w hw => by dsimp only at hw; go_simp⟩) hHeld ?_
      simp only [Act.put, List.setIfInBounds_toArray, List.set_cons_zero, List.set_cons_succ]
      refine wpAnyH_take (i := 2) (oi := ⟨some 5, _, _, _, _, _⟩) (v := (.agg #[.int .i64 (l), .int .i64 (h), .int .i64 (c), .string (b), .string (d)])) rfl (by kernel_rfl) (by kernel_rfl) (by kernel_rfl) (fun _ _ _ h => h) (.inl ⟨by rfl, fun w hw => by dsimp only at hw; go_simp⟩) hHeld ?_
      simp only [Act.put, List.setIfInBounds_toArray, List.set_cons_zero, List.set_cons_succ]
      refine wpAnyH_ready (rs := [1]) (by kernel_rfl) (by simp) ?_
      refine AllReadyH.cons (o := ⟨some 4, _, _, _, _, _⟩) rfl (fun K hK => ?_) AllReadyH.nil
      go_simp
      refine (Hlow.out _).mono ?_
      rintro e V1 ⟨rfl, f1⟩
      have HF1 := Lib.hid (HG.out.trans f1)
      refine hK.out _ _ ⟨f1.cell hHeld.1 (fun h => h), f1.cell hHeld.2.1 (fun h => h), f1.cell hHeld.2.2.1 (fun h => h), f1.cell hHeld.2.2.2.1 (fun h => h), f1.cell hHeld.2.2.2.2 (fun h => h)⟩ (fun hHeld => ?_)
      clear hK K f1 HG
      refine wpAnyH_ready (rs := [3]) (by kernel_rfl) (by simp) ?_
      refine AllReadyH.cons (o := ⟨some 6, _, _, _, _, _⟩) rfl (fun K hK => ?_) AllReadyH.nil
      go_simp
      refine (Hhigh.out _).mono ?_
      rintro e V2 ⟨rfl, f2⟩
      have HF2 := Lib.hid (HF1.out.trans f2)
      refine hK.out _ _ ⟨f2.cell hHeld.1 (fun h => h), f2.cell hHeld.2.1 (fun h => h), f2.cell hHeld.2.2.1 (fun h => h), f2.cell hHeld.2.2.2.1 (fun h => h), f2.cell hHeld.2.2.2.2 (fun h => h)⟩ (fun hHeld => ?_)
      clear hK K f2 HF1
      refine wpAnyH_take (i := 4) (oi := ⟨some 7, _, _, _, _, _⟩) (v := (.bool (true))) rfl (by kernel_rfl) (by kernel_rfl) (by kernel_rfl) (fun _ _ _ h => h) (.inl ⟨by rfl, fun w hw => by dsimp only at hw; go_simp⟩) hHeld ?_
      simp only [Act.put, List.setIfInBounds_toArray, List.set_cons_zero, List.set_cons_succ]
      refine wpAnyH_take (i := 5) (oi := ⟨some 8, _, _, _, _, _⟩) (v := (.bool (true))) rfl (by kernel_rfl) (by kernel_rfl) (by kernel_rfl) (fun _ _ _ h => h) (.inl ⟨by rfl, fun w hw => by dsimp only at hw; go_simp⟩) hHeld ?_
      simp only [Act.put, List.setIfInBounds_toArray, List.set_cons_zero, List.set_cons_succ]
      refine wpAnyH_take (i := 6) (oi := ⟨some 9, _, _, _, _, _⟩) (v := (.agg #[.int .i64 (l), .int .i64 (h), .int .i64 (c), .string (b), .string (d)])) rfl (by kernel_rfl) (by kernel_rfl) (by kernel_rfl) (fun _ _ _ h => h) (.inl ⟨by rfl, fun w hw => by dsimp only at hw; go_simp⟩) hHeld ?_
      simp only [Act.put, List.setIfInBounds_toArray, List.set_cons_zero, List.set_cons_succ]
      refine wpAnyH_take (i := 8) (oi := ⟨some 11, _, _, _, _, _⟩) (v := (.pointer (some ⟨x, 3, none⟩))) rfl (by kernel_rfl) (by kernel_rfl) (by kernel_rfl) (fun _ _ _ h => h) (.inl ⟨by rfl, fun w hw => by dsimp only at hw; go_simp⟩) hHeld ?_
      simp only [Act.put, List.setIfInBounds_toArray, List.set_cons_zero, List.set_cons_succ]
      refine wpAnyH_take (i := 9) (oi := ⟨some 12, _, _, _, _, _⟩) (v := (.string (b))) rfl (by kernel_rfl) (by kernel_rfl) (by kernel_rfl) (fun _ _ _ h => h) (.inl ⟨by rfl, fun w hw => by dsimp only at hw; go_simp⟩) hHeld ?_
      simp only [Act.put, List.setIfInBounds_toArray, List.set_cons_zero, List.set_cons_succ]
      refine wpAnyH_take (i := 10) (oi := ⟨some 13, _, _, _, _, _⟩) (v := (.int .i64 (((b).size : Int)))) rfl (by kernel_rfl) (by kernel_rfl) (by kernel_rfl) (fun _ _ _ h => h) (.inl ⟨by rfl, fun w hw => by dsimp only at hw; go_simp⟩) hHeld ?_
      simp only [Act.put, List.setIfInBounds_toArray, List.set_cons_zero, List.set_cons_succ]
      refine wpAnyH_ready (rs := [7]) (by kernel_rfl) (by simp) ?_
      refine AllReadyH.cons (o := ⟨some 10, _, _, _, _, _⟩) rfl (fun K hK => ?_) AllReadyH.nil
      go_simp
      refine (Hlow.out _).mono ?_
      rintro e V3 ⟨rfl, f3⟩
      have HF3 := Lib.hid (HF2.out.trans f3)
      refine hK.out _ _ ⟨f3.cell hHeld.1 (fun h => h), f3.cell hHeld.2.1 (fun h => h), f3.cell hHeld.2.2.1 (fun h => h), f3.cell hHeld.2.2.2.1 (fun h => h), f3.cell hHeld.2.2.2.2 (fun h => h)⟩ (fun hHeld => ?_)
      clear hK K f3 HF2
      refine wpAnyH_take (i := 11) (oi := ⟨some 14, _, _, _, _, _⟩) (v := (.bool (true))) rfl (by kernel_rfl) (by kernel_rfl) (by kernel_rfl) (fun _ _ _ h => h) (.inl ⟨by rfl, fun w hw => by dsimp only at hw; go_simp⟩) hHeld ?_
      simp only [Act.put, List.setIfInBounds_toArray, List.set_cons_zero, List.set_cons_succ]
      refine wpAnyH_take (i := 12) (oi := ⟨some 15, _, _, _, _, _⟩) (v := (.bool (true))) rfl (by kernel_rfl) (by kernel_rfl) (by kernel_rfl) (fun _ _ _ h => h) (.inl ⟨by rfl, fun w hw => by dsimp only at hw; go_simp⟩) hHeld ?_
      simp only [Act.put, List.setIfInBounds_toArray, List.set_cons_zero, List.set_cons_succ]
      refine wpAnyH_take (i := 13) (oi := ⟨some 2, _, _, _, _, _⟩) (v := (.bool (true))) rfl (by kernel_rfl) (by kernel_rfl) (by kernel_rfl) (fun _ _ _ h => h) (.inl ⟨by rfl, fun w hw => by dsimp only at hw; go_simp⟩) hHeld ?_
      simp only [Act.put, List.setIfInBounds_toArray, List.set_cons_zero, List.set_cons_succ]
      refine wpAnyH_done (by kernel_rfl) ?_ _
      go_wp2_with fail
      go_ret
      exact ⟨ret_bool HR.out.symm, HF3.out⟩
    · have e2b : (L == (b.size : Int)) = false := by rw [beq_eq_false_iff_ne]; exact e2
      have HR : Hid (R = false) := Lib.hid (by rw [HJ.out, decide_eq_false e2]; simp)
      clear HJ e1
      refine wp_region_held_drew (S := fun w' => w'.cell? ⟨x, 0, none⟩ = some (.int .i64 (l)) ∧ w'.cell? ⟨x, 1, none⟩ = some (.int .i64 (h)) ∧ w'.cell? ⟨x, 2, none⟩ = some (.int .i64 (c)) ∧ w'.cell? ⟨x, 3, none⟩ = some (.string (b)) ∧ w'.cell? ⟨x, 4, none⟩ = some (.string (d))) (by kernel_rfl) ⟨a0, a1, a2, a3, a4⟩ (fun hHeld => ?_)
      refine wpAnyH_take (i := 0) (oi := ⟨some 3, _, _, _, _, _⟩) (v := (.agg #[.int .i64 (l), .int .i64 (h), .int .i64 (c), .string (b), .string (d)])) rfl (by kernel_rfl) (by kernel_rfl) (by kernel_rfl) (fun _ _ _ h => h) (.inl ⟨by rfl, fun w hw => by dsimp only at hw; go_simp⟩) hHeld ?_
      simp only [Act.put, List.setIfInBounds_toArray, List.set_cons_zero, List.set_cons_succ]
      refine wpAnyH_take (i := 2) (oi := ⟨some 5, _, _, _, _, _⟩) (v := (.agg #[.int .i64 (l), .int .i64 (h), .int .i64 (c), .string (b), .string (d)])) rfl (by kernel_rfl) (by kernel_rfl) (by kernel_rfl) (fun _ _ _ h => h) (.inl ⟨by rfl, fun w hw => by dsimp only at hw; go_simp⟩) hHeld ?_
      simp only [Act.put, List.setIfInBounds_toArray, List.set_cons_zero, List.set_cons_succ]
      refine wpAnyH_ready (rs := [1]) (by kernel_rfl) (by simp) ?_
      refine AllReadyH.cons (o := ⟨some 4, _, _, _, _, _⟩) rfl (fun K hK => ?_) AllReadyH.nil
      go_simp
      refine (Hlow.out _).mono ?_
      rintro e V1 ⟨rfl, f1⟩
      have HF1 := Lib.hid (HG.out.trans f1)
      refine hK.out _ _ ⟨f1.cell hHeld.1 (fun h => h), f1.cell hHeld.2.1 (fun h => h), f1.cell hHeld.2.2.1 (fun h => h), f1.cell hHeld.2.2.2.1 (fun h => h), f1.cell hHeld.2.2.2.2 (fun h => h)⟩ (fun hHeld => ?_)
      clear hK K f1 HG
      refine wpAnyH_ready (rs := [3]) (by kernel_rfl) (by simp) ?_
      refine AllReadyH.cons (o := ⟨some 6, _, _, _, _, _⟩) rfl (fun K hK => ?_) AllReadyH.nil
      go_simp
      refine (Hhigh.out _).mono ?_
      rintro e V2 ⟨rfl, f2⟩
      have HF2 := Lib.hid (HF1.out.trans f2)
      refine hK.out _ _ ⟨f2.cell hHeld.1 (fun h => h), f2.cell hHeld.2.1 (fun h => h), f2.cell hHeld.2.2.1 (fun h => h), f2.cell hHeld.2.2.2.1 (fun h => h), f2.cell hHeld.2.2.2.2 (fun h => h)⟩ (fun hHeld => ?_)
      clear hK K f2 HF1
      refine wpAnyH_take (i := 4) (oi := ⟨some 7, _, _, _, _, _⟩) (v := (.bool (true))) rfl (by kernel_rfl) (by kernel_rfl) (by kernel_rfl) (fun _ _ _ h => h) (.inl ⟨by rfl, fun w hw => by dsimp only at hw; go_simp⟩) hHeld ?_
      simp only [Act.put, List.setIfInBounds_toArray, List.set_cons_zero, List.set_cons_succ]
      refine wpAnyH_take (i := 5) (oi := ⟨some 8, _, _, _, _, _⟩) (v := (.bool (true))) rfl (by kernel_rfl) (by kernel_rfl) (by kernel_rfl) (fun _ _ _ h => h) (.inl ⟨by rfl, fun w hw => by dsimp only at hw; go_simp⟩) hHeld ?_
      simp only [Act.put, List.setIfInBounds_toArray, List.set_cons_zero, List.set_cons_succ]
      refine wpAnyH_take (i := 6) (oi := ⟨some 9, _, _, _, _, _⟩) (v := (.agg #[.int .i64 (l), .int .i64 (h), .int .i64 (c), .string (b), .string (d)])) rfl (by kernel_rfl) (by kernel_rfl) (by kernel_rfl) (fun _ _ _ h => h) (.inl ⟨by rfl, fun w hw => by dsimp only at hw; go_simp⟩) hHeld ?_
      simp only [Act.put, List.setIfInBounds_toArray, List.set_cons_zero, List.set_cons_succ]
      refine wpAnyH_take (i := 8) (oi := ⟨some 11, _, _, _, _, _⟩) (v := (.pointer (some ⟨x, 3, none⟩))) rfl (by kernel_rfl) (by kernel_rfl) (by kernel_rfl) (fun _ _ _ h => h) (.inl ⟨by rfl, fun w hw => by dsimp only at hw; go_simp⟩) hHeld ?_
      simp only [Act.put, List.setIfInBounds_toArray, List.set_cons_zero, List.set_cons_succ]
      refine wpAnyH_take (i := 9) (oi := ⟨some 12, _, _, _, _, _⟩) (v := (.string (b))) rfl (by kernel_rfl) (by kernel_rfl) (by kernel_rfl) (fun _ _ _ h => h) (.inl ⟨by rfl, fun w hw => by dsimp only at hw; go_simp⟩) hHeld ?_
      simp only [Act.put, List.setIfInBounds_toArray, List.set_cons_zero, List.set_cons_succ]
      refine wpAnyH_take (i := 10) (oi := ⟨some 13, _, _, _, _, _⟩) (v := (.int .i64 (((b).size : Int)))) rfl (by kernel_rfl) (by kernel_rfl) (by kernel_rfl) (fun _ _ _ h => h) (.inl ⟨by rfl, fun w hw => by dsimp only at hw; go_simp⟩) hHeld ?_
      simp only [Act.put, List.setIfInBounds_toArray, List.set_cons_zero, List.set_cons_succ]
      refine wpAnyH_ready (rs := [7]) (by kernel_rfl) (by simp) ?_
      refine AllReadyH.cons (o := ⟨some 10, _, _, _, _, _⟩) rfl (fun K hK => ?_) AllReadyH.nil
      go_simp
      refine (Hlow.out _).mono ?_
      rintro e V3 ⟨rfl, f3⟩
      have HF3 := Lib.hid (HF2.out.trans f3)
      refine hK.out _ _ ⟨f3.cell hHeld.1 (fun h => h), f3.cell hHeld.2.1 (fun h => h), f3.cell hHeld.2.2.1 (fun h => h), f3.cell hHeld.2.2.2.1 (fun h => h), f3.cell hHeld.2.2.2.2 (fun h => h)⟩ (fun hHeld => ?_)
      clear hK K f3 HF2
      refine wpAnyH_take (i := 11) (oi := ⟨some 14, _, _, _, _, _⟩) (v := (.bool (false))) rfl (by kernel_rfl) (by kernel_rfl) (by kernel_rfl) (fun _ _ _ h => h) (.inl ⟨by rfl, fun w hw => by dsimp only at hw; go_simp⟩) hHeld ?_
      simp only [Act.put, List.setIfInBounds_toArray, List.set_cons_zero, List.set_cons_succ]
      refine wpAnyH_take (i := 12) (oi := ⟨some 15, _, _, _, _, _⟩) (v := (.bool (false))) rfl (by kernel_rfl) (by kernel_rfl) (by kernel_rfl) (fun _ _ _ h => h) (.inl ⟨by rfl, fun w hw => by dsimp only at hw; go_simp⟩) hHeld ?_
      simp only [Act.put, List.setIfInBounds_toArray, List.set_cons_zero, List.set_cons_succ]
      refine wpAnyH_take (i := 13) (oi := ⟨some 2, _, _, _, _, _⟩) (v := (.bool (false))) rfl (by kernel_rfl) (by kernel_rfl) (by kernel_rfl) (fun _ _ _ h => h) (.inl ⟨by rfl, fun w hw => by dsimp only at hw; go_simp⟩) hHeld ?_
      simp only [Act.put, List.setIfInBounds_toArray, List.set_cons_zero, List.set_cons_succ]
      refine wpAnyH_done (by kernel_rfl) ?_ _
      go_wp2_with fail
      go_ret
      exact ⟨ret_bool HR.out.symm, HF3.out⟩
  · have e1b : (L == H) = false := by rw [beq_eq_false_iff_ne]; exact e1
    have HR : Hid (R = false) := Lib.hid (by rw [HJ.out, decide_eq_false e1]; rfl)
    clear HJ
    refine wp_region_held_drew (S := fun w' => w'.cell? ⟨x, 0, none⟩ = some (.int .i64 (l)) ∧ w'.cell? ⟨x, 1, none⟩ = some (.int .i64 (h)) ∧ w'.cell? ⟨x, 2, none⟩ = some (.int .i64 (c)) ∧ w'.cell? ⟨x, 3, none⟩ = some (.string (b)) ∧ w'.cell? ⟨x, 4, none⟩ = some (.string (d))) (by kernel_rfl) ⟨a0, a1, a2, a3, a4⟩ (fun hHeld => ?_)
    refine wpAnyH_take (i := 0) (oi := ⟨some 3, _, _, _, _, _⟩) (v := (.agg #[.int .i64 (l), .int .i64 (h), .int .i64 (c), .string (b), .string (d)])) rfl (by kernel_rfl) (by kernel_rfl) (by kernel_rfl) (fun _ _ _ h => h) (.inl ⟨by rfl, fun w hw => by dsimp only at hw; go_simp⟩) hHeld ?_
    simp only [Act.put, List.setIfInBounds_toArray, List.set_cons_zero, List.set_cons_succ]
    refine wpAnyH_take (i := 2) (oi := ⟨some 5, _, _, _, _, _⟩) (v := (.agg #[.int .i64 (l), .int .i64 (h), .int .i64 (c), .string (b), .string (d)])) rfl (by kernel_rfl) (by kernel_rfl) (by kernel_rfl) (fun _ _ _ h => h) (.inl ⟨by rfl, fun w hw => by dsimp only at hw; go_simp⟩) hHeld ?_
    simp only [Act.put, List.setIfInBounds_toArray, List.set_cons_zero, List.set_cons_succ]
    refine wpAnyH_ready (rs := [1]) (by kernel_rfl) (by simp) ?_
    refine AllReadyH.cons (o := ⟨some 4, _, _, _, _, _⟩) rfl (fun K hK => ?_) AllReadyH.nil
    go_simp
    refine (Hlow.out _).mono ?_
    rintro e V1 ⟨rfl, f1⟩
    have HF1 := Lib.hid (HG.out.trans f1)
    refine hK.out _ _ ⟨f1.cell hHeld.1 (fun h => h), f1.cell hHeld.2.1 (fun h => h), f1.cell hHeld.2.2.1 (fun h => h), f1.cell hHeld.2.2.2.1 (fun h => h), f1.cell hHeld.2.2.2.2 (fun h => h)⟩ (fun hHeld => ?_)
    clear hK K f1 HG
    refine wpAnyH_ready (rs := [3]) (by kernel_rfl) (by simp) ?_
    refine AllReadyH.cons (o := ⟨some 6, _, _, _, _, _⟩) rfl (fun K hK => ?_) AllReadyH.nil
    go_simp
    refine (Hhigh.out _).mono ?_
    rintro e V2 ⟨rfl, f2⟩
    have HF2 := Lib.hid (HF1.out.trans f2)
    refine hK.out _ _ ⟨f2.cell hHeld.1 (fun h => h), f2.cell hHeld.2.1 (fun h => h), f2.cell hHeld.2.2.1 (fun h => h), f2.cell hHeld.2.2.2.1 (fun h => h), f2.cell hHeld.2.2.2.2 (fun h => h)⟩ (fun hHeld => ?_)
    clear hK K f2 HF1
    refine wpAnyH_take (i := 4) (oi := ⟨some 7, _, _, _, _, _⟩) (v := (.bool (false))) rfl (by kernel_rfl) (by kernel_rfl) (by kernel_rfl) (fun _ _ _ h => h) (.inl ⟨by rfl, fun w hw => by dsimp only at hw; go_simp⟩) hHeld ?_
    simp only [Act.put, List.setIfInBounds_toArray, List.set_cons_zero, List.set_cons_succ]
    refine wpAnyH_take (i := 5) (oi := ⟨some 8, _, _, _, _, _⟩) (v := (.bool (false))) rfl (by kernel_rfl) (by kernel_rfl) (by kernel_rfl) (fun _ _ _ h => h) (.inl ⟨by rfl, fun w hw => by dsimp only at hw; go_simp⟩) hHeld ?_
    simp only [Act.put, List.setIfInBounds_toArray, List.set_cons_zero, List.set_cons_succ]
    refine wpAnyH_take (i := 6) (oi := ⟨some 9, _, _, _, _, _⟩) rfl (by kernel_rfl) (by kernel_rfl) (by kernel_rfl) (fun _ _ _ h => h) (.inr ⟨by rfl, rfl⟩) hHeld ?_
    simp only [Act.put, List.setIfInBounds_toArray, List.set_cons_zero, List.set_cons_succ]
    refine wpAnyH_take (i := 7) (oi := ⟨some 10, _, _, _, _, _⟩) rfl (by kernel_rfl) (by kernel_rfl) (by kernel_rfl) (fun _ _ _ h => h) (.inr ⟨by rfl, rfl⟩) hHeld ?_
    simp only [Act.put, List.setIfInBounds_toArray, List.set_cons_zero, List.set_cons_succ]
    refine wpAnyH_take (i := 8) (oi := ⟨some 11, _, _, _, _, _⟩) rfl (by kernel_rfl) (by kernel_rfl) (by kernel_rfl) (fun _ _ _ h => h) (.inr ⟨by rfl, rfl⟩) hHeld ?_
    simp only [Act.put, List.setIfInBounds_toArray, List.set_cons_zero, List.set_cons_succ]
    refine wpAnyH_take (i := 9) (oi := ⟨some 12, _, _, _, _, _⟩) rfl (by kernel_rfl) (by kernel_rfl) (by kernel_rfl) (fun _ _ _ h => h) (.inr ⟨by rfl, rfl⟩) hHeld ?_
    simp only [Act.put, List.setIfInBounds_toArray, List.set_cons_zero, List.set_cons_succ]
    refine wpAnyH_take (i := 10) (oi := ⟨some 13, _, _, _, _, _⟩) rfl (by kernel_rfl) (by kernel_rfl) (by kernel_rfl) (fun _ _ _ h => h) (.inr ⟨by rfl, rfl⟩) hHeld ?_
    simp only [Act.put, List.setIfInBounds_toArray, List.set_cons_zero, List.set_cons_succ]
    refine wpAnyH_take (i := 11) (oi := ⟨some 14, _, _, _, _, _⟩) rfl (by kernel_rfl) (by kernel_rfl) (by kernel_rfl) (fun _ _ _ h => h) (.inr ⟨by rfl, rfl⟩) hHeld ?_
    simp only [Act.put, List.setIfInBounds_toArray, List.set_cons_zero, List.set_cons_succ]
    refine wpAnyH_take (i := 12) (oi := ⟨some 15, _, _, _, _, _⟩) (v := (.bool (false))) rfl (by kernel_rfl) (by kernel_rfl) (by kernel_rfl) (fun _ _ _ h => h) (.inl ⟨by rfl, fun w hw => by dsimp only at hw; go_simp⟩) hHeld ?_
    simp only [Act.put, List.setIfInBounds_toArray, List.set_cons_zero, List.set_cons_succ]
    refine wpAnyH_take (i := 13) (oi := ⟨some 2, _, _, _, _, _⟩) (v := (.bool (false))) rfl (by kernel_rfl) (by kernel_rfl) (by kernel_rfl) (fun _ _ _ h => h) (.inl ⟨by rfl, fun w hw => by dsimp only at hw; go_simp⟩) hHeld ?_
    simp only [Act.put, List.setIfInBounds_toArray, List.set_cons_zero, List.set_cons_succ]
    refine wpAnyH_done (by kernel_rfl) ?_ _
    go_wp2_with fail
    go_ret
    exact ⟨ret_bool HR.out.symm, HF2.out⟩
set_option maxRecDepth 100000 in
set_option maxHeartbeats 4000000 in
theorem concat_any (p q : Shp) (hp : p.bg.size ≤ 1000 ∧ p.en.size ≤ 1000) (hq : q.bg.size ≤ 1000 ∧ q.en.size ≤ 1000) (hep : empB p = false) (heq : empB q = false) (hsum : lowS p + lowS q ≤ 200) (hfp : fixedB p = true) (hfq : fixedB q = false) (w : World) : Calls Tryz.prog 18 #[shV p, shV q] w fun e w' => e = .returned (shV ⟨lowS p + lowS q, min (highS p + highS q) 200, iOr (ownS p) (ownS q), p.bg ++ q.bg, q.en⟩) ∧ Frm (fun _ => False) w w' := by
  have hlow := least_any p
  have hlow' := least_any q
  have hhigh := most_any p
  have hhigh' := most_any q
  have hown := own_any p
  have hown' := own_any q
  have hemp := emp_any p hp.1 hp.2
  have hemp' := emp_any q hq.1 hq.2
  have hnone := empty_any
  have hL0 : 0 ≤ lowS p ∧ 0 ≤ lowS q ∧ highS p ≤ 200 ∧ highS q ≤ 200 := by unfold lowS highS; omega
  have hLH : lowS p ≤ highS p ∧ lowS q ≤ highS q := by
    have e1 := (empT p).r1
    have e2 := (empT q).r1
    rw [hep] at e1
    rw [heq] at e2
    exact ⟨Int.not_lt.1 fun h => Bool.noConfusion (e1 h), Int.not_lt.1 fun h => Bool.noConfusion (e2 h)⟩
  have hfx := fixed_any p
  have hfy := fixed_any q
  rw [hfp] at hfx
  rw [hfq] at hfy
  rw [hep] at hemp
  rw [heq] at hemp'
  rw [← bits_or]
  obtain ⟨E, hE⟩ : ∃ E, E = empB p := ⟨_, rfl⟩
  obtain ⟨E', hE'⟩ : ∃ E, E = empB q := ⟨_, rfl⟩
  obtain ⟨L, hL⟩ : ∃ E, E = lowS p := ⟨_, rfl⟩
  obtain ⟨L', hL'⟩ : ∃ E, E = lowS q := ⟨_, rfl⟩
  obtain ⟨H, hH⟩ : ∃ E, E = highS p := ⟨_, rfl⟩
  obtain ⟨H', hH'⟩ : ∃ E, E = highS q := ⟨_, rfl⟩
  obtain ⟨O, hO⟩ : ∃ E, E = ownS p := ⟨_, rfl⟩
  obtain ⟨O', hO'⟩ : ∃ E, E = ownS q := ⟨_, rfl⟩
  rw [← hL] at hlow; rw [← hL'] at hlow'; rw [← hH] at hhigh; rw [← hH'] at hhigh'; rw [← hO] at hown; rw [← hO'] at hown'
  rw [← hL, ← hL', ← hH, ← hH', ← hO, ← hO']
  rw [← hL, ← hL'] at hsum
  rw [← hL, ← hL', ← hH, ← hH'] at hLH
  rw [← hL, ← hL', ← hH, ← hH'] at hL0
  have hH0 : L ≤ H ∧ L' ≤ H' ∨ True := .inr trivial
  clear hH0 hep heq hfp hfq hE hE' hL hL' hH hH' hO hO'
  obtain ⟨l, h, c, b, d⟩ := p
  obtain ⟨l', h', c', b', d'⟩ := q
  unfold shV at *
  unfold none' at hnone
  simp only at hlow hlow' hhigh hhigh' hown hown' hemp hemp' hnone hp hq hfx hfy ⊢
  have Hlow := Lib.hid hlow
  have Hlow' := Lib.hid hlow'
  have Hhigh := Lib.hid hhigh
  have Hhigh' := Lib.hid hhigh'
  have Hown := Lib.hid hown
  have Hown' := Lib.hid hown'
  have Hnone := Lib.hid hnone
  clear hlow hlow' hhigh hhigh' hown hown' hnone
  have Hemp := Lib.hid hemp
  have Hemp' := Lib.hid hemp'
  have Hfx := Lib.hid hfx
  have Hfy := Lib.hid hfy
  clear hemp hemp' hfx hfy Hnone
  have w1 : IntKind.i64.wrap (L + L') = L + L' := IntWalk.i64_in _ (by omega)
  go_enter Tryz.func18, Tryz.ntmps18
  go_upto_region 1 with fail
  obtain ⟨W1, x, y, g, hW, hg, hy, hx, hf, ⟨a0, a1, a2, a3, a4⟩, ⟨b0, b1, b2, b3, b4⟩, hres, hnxg, hnyg⟩ := three_sh w l h c l' h' c' b d b' d'
  rw [hW, hg, hy, hx]
  clear hW hg hy hx
  have HG := Lib.hid hf.drew
  have hres := hres.still (Frm.refl _ _).drew
  clear hf
  have q1 : ¬ 200 < L + L' := by omega
  refine wp_region_held_drew (S := fun w' => w'.cell? ⟨x, 0, none⟩ = some (.int .i64 (l)) ∧ w'.cell? ⟨x, 1, none⟩ = some (.int .i64 (h)) ∧ w'.cell? ⟨x, 2, none⟩ = some (.int .i64 (c)) ∧ w'.cell? ⟨x, 3, none⟩ = some (.string (b)) ∧ w'.cell? ⟨x, 4, none⟩ = some (.string (d)) ∧ w'.cell? ⟨y, 0, none⟩ = some (.int .i64 (l')) ∧ w'.cell? ⟨y, 1, none⟩ = some (.int .i64 (h')) ∧ w'.cell? ⟨y, 2, none⟩ = some (.int .i64 (c')) ∧ w'.cell? ⟨y, 3, none⟩ = some (.string (b')) ∧ w'.cell? ⟨y, 4, none⟩ = some (.string (d')) ∧ Res w w' g) (by kernel_rfl) ⟨a0, a1, a2, a3, a4, b0, b1, b2, b3, b4, hres⟩ (fun hHeld => ?_)
  refine wpAnyH_take (i := 0) (oi := ⟨some 6, _, _, _, _, _⟩) (v := (.agg #[.int .i64 (l), .int .i64 (h), .int .i64 (c), .string (b), .string (d)])) rfl (by kernel_rfl) (by kernel_rfl) (by kernel_rfl) (fun _ _ _ h => h) (.inl ⟨by rfl, fun w hw => by dsimp only at hw; go_simp⟩) hHeld ?_
  simp only [Act.put, List.setIfInBounds_toArray, List.set_cons_zero, List.set_cons_succ]
  refine wpAnyH_ready (rs := [1]) (by kernel_rfl) (by simp) ?_
  refine AllReadyH.cons (o := ⟨some 7, _, _, _, _, _⟩) rfl (fun K hK => ?_) AllReadyH.nil
  go_simp
  refine (Hemp.out _).mono ?_
  rintro e V1 ⟨rfl, f1⟩
  have HF1 := Lib.hid (HG.out.trans f1)
  refine hK.out _ _ ⟨f1.cell hHeld.1 (fun h => h), f1.cell hHeld.2.1 (fun h => h), f1.cell hHeld.2.2.1 (fun h => h), f1.cell hHeld.2.2.2.1 (fun h => h), f1.cell hHeld.2.2.2.2.1 (fun h => h), f1.cell hHeld.2.2.2.2.2.1 (fun h => h), f1.cell hHeld.2.2.2.2.2.2.1 (fun h => h), f1.cell hHeld.2.2.2.2.2.2.2.1 (fun h => h), f1.cell hHeld.2.2.2.2.2.2.2.2.1 (fun h => h), f1.cell hHeld.2.2.2.2.2.2.2.2.2.1 (fun h => h), hHeld.2.2.2.2.2.2.2.2.2.2.still f1⟩ (fun hHeld => ?_)
  clear hK K f1 HG
  refine wpAnyH_take (i := 2) (oi := ⟨some 8, _, _, _, _, _⟩) (v := (.bool (false))) rfl (by kernel_rfl) (by kernel_rfl) (by kernel_rfl) (fun _ _ _ h => h) (.inl ⟨by rfl, fun w hw => by dsimp only at hw; go_simp⟩) hHeld ?_
  simp only [Act.put, List.setIfInBounds_toArray, List.set_cons_zero, List.set_cons_succ]
  refine wpAnyH_take (i := 3) (oi := ⟨some 9, _, _, _, _, _⟩) (v := (.agg #[.int .i64 (l'), .int .i64 (h'), .int .i64 (c'), .string (b'), .string (d')])) rfl (by kernel_rfl) (by kernel_rfl) (by kernel_rfl) (fun _ _ _ h => h) (.inl ⟨by rfl, fun w hw => by dsimp only at hw; go_simp⟩) hHeld ?_
  simp only [Act.put, List.setIfInBounds_toArray, List.set_cons_zero, List.set_cons_succ]
  refine wpAnyH_ready (rs := [4]) (by kernel_rfl) (by simp) ?_
  refine AllReadyH.cons (o := ⟨some 10, _, _, _, _, _⟩) rfl (fun K hK => ?_) AllReadyH.nil
  go_simp
  refine (Hemp'.out _).mono ?_
  rintro e V2 ⟨rfl, f2⟩
  have HF2 := Lib.hid (HF1.out.trans f2)
  refine hK.out _ _ ⟨f2.cell hHeld.1 (fun h => h), f2.cell hHeld.2.1 (fun h => h), f2.cell hHeld.2.2.1 (fun h => h), f2.cell hHeld.2.2.2.1 (fun h => h), f2.cell hHeld.2.2.2.2.1 (fun h => h), f2.cell hHeld.2.2.2.2.2.1 (fun h => h), f2.cell hHeld.2.2.2.2.2.2.1 (fun h => h), f2.cell hHeld.2.2.2.2.2.2.2.1 (fun h => h), f2.cell hHeld.2.2.2.2.2.2.2.2.1 (fun h => h), f2.cell hHeld.2.2.2.2.2.2.2.2.2.1 (fun h => h), hHeld.2.2.2.2.2.2.2.2.2.2.still f2⟩ (fun hHeld => ?_)
  clear hK K f2 HF1
  refine wpAnyH_take (i := 5) (oi := ⟨some 11, _, _, _, _, _⟩) (v := (.bool (false))) rfl (by kernel_rfl) (by kernel_rfl) (by kernel_rfl) (fun _ _ _ h => h) (.inl ⟨by rfl, fun w hw => by dsimp only at hw; go_simp⟩) hHeld ?_
  simp only [Act.put, List.setIfInBounds_toArray, List.set_cons_zero, List.set_cons_succ]
  refine wpAnyH_take (i := 6) (oi := ⟨some 12, _, _, _, _, _⟩) (v := (.bool (false))) rfl (by kernel_rfl) (by kernel_rfl) (by kernel_rfl) (fun _ _ _ h => h) (.inl ⟨by rfl, fun w hw => by dsimp only at hw; go_simp⟩) hHeld ?_
  simp only [Act.put, List.setIfInBounds_toArray, List.set_cons_zero, List.set_cons_succ]
  refine wpAnyH_take (i := 7) (oi := ⟨some 13, _, _, _, _, _⟩) (v := (.agg #[.int .i64 (l), .int .i64 (h), .int .i64 (c), .string (b), .string (d)])) rfl (by kernel_rfl) (by kernel_rfl) (by kernel_rfl) (fun _ _ _ h => h) (.inl ⟨by rfl, fun w hw => by dsimp only at hw; go_simp⟩) hHeld ?_
  simp only [Act.put, List.setIfInBounds_toArray, List.set_cons_zero, List.set_cons_succ]
  refine wpAnyH_take (i := 9) (oi := ⟨some 15, _, _, _, _, _⟩) (v := (.agg #[.int .i64 (l'), .int .i64 (h'), .int .i64 (c'), .string (b'), .string (d')])) rfl (by kernel_rfl) (by kernel_rfl) (by kernel_rfl) (fun _ _ _ h => h) (.inl ⟨by rfl, fun w hw => by dsimp only at hw; go_simp⟩) hHeld ?_
  simp only [Act.put, List.setIfInBounds_toArray, List.set_cons_zero, List.set_cons_succ]
  refine wpAnyH_ready (rs := [8]) (by kernel_rfl) (by simp) ?_
  refine AllReadyH.cons (o := ⟨some 14, _, _, _, _, _⟩) rfl (fun K hK => ?_) AllReadyH.nil
  go_simp
  refine (Hlow.out _).mono ?_
  rintro e V3 ⟨rfl, f3⟩
  have HF3 := Lib.hid (HF2.out.trans f3)
  refine hK.out _ _ ⟨f3.cell hHeld.1 (fun h => h), f3.cell hHeld.2.1 (fun h => h), f3.cell hHeld.2.2.1 (fun h => h), f3.cell hHeld.2.2.2.1 (fun h => h), f3.cell hHeld.2.2.2.2.1 (fun h => h), f3.cell hHeld.2.2.2.2.2.1 (fun h => h), f3.cell hHeld.2.2.2.2.2.2.1 (fun h => h), f3.cell hHeld.2.2.2.2.2.2.2.1 (fun h => h), f3.cell hHeld.2.2.2.2.2.2.2.2.1 (fun h => h), f3.cell hHeld.2.2.2.2.2.2.2.2.2.1 (fun h => h), hHeld.2.2.2.2.2.2.2.2.2.2.still f3⟩ (fun hHeld => ?_)
  clear hK K f3 HF2
  refine wpAnyH_ready (rs := [10]) (by kernel_rfl) (by simp) ?_
  refine AllReadyH.cons (o := ⟨some 16, _, _, _, _, _⟩) rfl (fun K hK => ?_) AllReadyH.nil
  go_simp
  refine (Hlow'.out _).mono ?_
  rintro e V4 ⟨rfl, f4⟩
  have HF4 := Lib.hid (HF3.out.trans f4)
  refine hK.out _ _ ⟨f4.cell hHeld.1 (fun h => h), f4.cell hHeld.2.1 (fun h => h), f4.cell hHeld.2.2.1 (fun h => h), f4.cell hHeld.2.2.2.1 (fun h => h), f4.cell hHeld.2.2.2.2.1 (fun h => h), f4.cell hHeld.2.2.2.2.2.1 (fun h => h), f4.cell hHeld.2.2.2.2.2.2.1 (fun h => h), f4.cell hHeld.2.2.2.2.2.2.2.1 (fun h => h), f4.cell hHeld.2.2.2.2.2.2.2.2.1 (fun h => h), f4.cell hHeld.2.2.2.2.2.2.2.2.2.1 (fun h => h), hHeld.2.2.2.2.2.2.2.2.2.2.still f4⟩ (fun hHeld => ?_)
  clear hK K f4 HF3
  refine wpAnyH_take (i := 11) (oi := ⟨some 17, _, _, _, _, _⟩) (v := (.int .i64 ((L : Int) + (L' : Int)))) rfl (by kernel_rfl) (by kernel_rfl) (by kernel_rfl) (fun _ _ _ h => h) (.inl ⟨by rfl, fun w hw => by dsimp only at hw; go_simp⟩) hHeld ?_
  simp only [Act.put, List.setIfInBounds_toArray, List.set_cons_zero, List.set_cons_succ]
  refine wpAnyH_take (i := 12) (oi := ⟨some 18, _, _, _, _, _⟩) (v := (.bool (false))) rfl (by kernel_rfl) (by kernel_rfl) (by kernel_rfl) (fun _ _ _ h => h) (.inl ⟨by rfl, fun w hw => by dsimp only at hw; go_simp⟩) hHeld ?_
  simp only [Act.put, List.setIfInBounds_toArray, List.set_cons_zero, List.set_cons_succ]
  refine wpAnyH_take (i := 13) (oi := ⟨some 19, _, _, _, _, _⟩) (v := (.bool (false))) rfl (by kernel_rfl) (by kernel_rfl) (by kernel_rfl) (fun _ _ _ h => h) (.inl ⟨by rfl, fun w hw => by dsimp only at hw; go_simp⟩) hHeld ?_
  simp only [Act.put, List.setIfInBounds_toArray, List.set_cons_zero, List.set_cons_succ]
  refine wpAnyH_done (by kernel_rfl) ?_ _
  obtain ⟨a0, a1, a2, a3, a4, b0, b1, b2, b3, b4, hres⟩ := hHeld
  go_upto_region 3 with fail
  have HF := Lib.hid HF4.out.drew
  have hres := hres.still (Frm.refl _ _).drew
  have w2 : IntKind.i64.wrap (H + H') = H + H' := IntWalk.i64_in _ (by omega)
  go_cut [5] from 13 (fun s5 wx => ∃ m, s5 = .pointer (some ⟨m, 0, none⟩) ∧ wx.heap[m]? = some (.cells #[.int .i64 (L + L'), .int .i64 (min (H + H') 200), .int .i64 (bits .or .i64 O O'), .string b, .string d'] 24 (0, 0)) ∧ (wx.cell? ⟨x, 0, none⟩ = some (.int .i64 l) ∧ wx.cell? ⟨x, 1, none⟩ = some (.int .i64 h) ∧ wx.cell? ⟨x, 2, none⟩ = some (.int .i64 c) ∧ wx.cell? ⟨x, 3, none⟩ = some (.string b) ∧ wx.cell? ⟨x, 4, none⟩ = some (.string d)) ∧ (wx.cell? ⟨y, 0, none⟩ = some (.int .i64 l') ∧ wx.cell? ⟨y, 1, none⟩ = some (.int .i64 h') ∧ wx.cell? ⟨y, 2, none⟩ = some (.int .i64 c') ∧ wx.cell? ⟨y, 3, none⟩ = some (.string b') ∧ wx.cell? ⟨y, 4, none⟩ = some (.string d')) ∧ Res w wx g ∧ Res w wx m ∧ x ≠ m ∧ y ≠ m ∧ g ≠ m)
  case first =>
    refine wp_region_held_drew (S := fun w' => w'.cell? ⟨x, 0, none⟩ = some (.int .i64 (l)) ∧ w'.cell? ⟨x, 1, none⟩ = some (.int .i64 (h)) ∧ w'.cell? ⟨x, 2, none⟩ = some (.int .i64 (c)) ∧ w'.cell? ⟨x, 3, none⟩ = some (.string (b)) ∧ w'.cell? ⟨x, 4, none⟩ = some (.string (d)) ∧ w'.cell? ⟨y, 0, none⟩ = some (.int .i64 (l')) ∧ w'.cell? ⟨y, 1, none⟩ = some (.int .i64 (h')) ∧ w'.cell? ⟨y, 2, none⟩ = some (.int .i64 (c')) ∧ w'.cell? ⟨y, 3, none⟩ = some (.string (b')) ∧ w'.cell? ⟨y, 4, none⟩ = some (.string (d')) ∧ Res w w' g) (by kernel_rfl) ⟨a0, a1, a2, a3, a4, b0, b1, b2, b3, b4, hres⟩ (fun hHeld => ?_)
    generalize V4.drew = V0 at *
    refine wpAnyH_take (i := 0) (oi := ⟨some 21, _, _, _, _, _⟩) (v := (.agg #[.int .i64 (l), .int .i64 (h), .int .i64 (c), .string (b), .string (d)])) rfl (by kernel_rfl) (by kernel_rfl) (by kernel_rfl) (fun _ _ _ h => h) (.inl ⟨by rfl, fun w hw => by dsimp only at hw; go_simp⟩) hHeld ?_
    simp only [Act.put, List.setIfInBounds_toArray, List.set_cons_zero, List.set_cons_succ]
    refine wpAnyH_take (i := 2) (oi := ⟨some 23, _, _, _, _, _⟩) (v := (.agg #[.int .i64 (l'), .int .i64 (h'), .int .i64 (c'), .string (b'), .string (d')])) rfl (by kernel_rfl) (by kernel_rfl) (by kernel_rfl) (fun _ _ _ h => h) (.inl ⟨by rfl, fun w hw => by dsimp only at hw; go_simp⟩) hHeld ?_
    simp only [Act.put, List.setIfInBounds_toArray, List.set_cons_zero, List.set_cons_succ]
    refine wpAnyH_take (i := 5) (oi := ⟨some 26, _, _, _, _, _⟩) (v := (.agg #[.int .i64 (l), .int .i64 (h), .int .i64 (c), .string (b), .string (d)])) rfl (by kernel_rfl) (by kernel_rfl) (by kernel_rfl) (fun _ _ _ h => h) (.inl ⟨by rfl, fun w hw => by dsimp only at hw; go_simp⟩) hHeld ?_
    simp only [Act.put, List.setIfInBounds_toArray, List.set_cons_zero, List.set_cons_succ]
    refine wpAnyH_take (i := 7) (oi := ⟨some 28, _, _, _, _, _⟩) (v := (.agg #[.int .i64 (l'), .int .i64 (h'), .int .i64 (c'), .string (b'), .string (d')])) rfl (by kernel_rfl) (by kernel_rfl) (by kernel_rfl) (fun _ _ _ h => h) (.inl ⟨by rfl, fun w hw => by dsimp only at hw; go_simp⟩) hHeld ?_
    simp only [Act.put, List.setIfInBounds_toArray, List.set_cons_zero, List.set_cons_succ]
    refine wpAnyH_take (i := 11) (oi := ⟨some 32, _, _, _, _, _⟩) (v := (.agg #[.int .i64 (l), .int .i64 (h), .int .i64 (c), .string (b), .string (d)])) rfl (by kernel_rfl) (by kernel_rfl) (by kernel_rfl) (fun _ _ _ h => h) (.inl ⟨by rfl, fun w hw => by dsimp only at hw; go_simp⟩) hHeld ?_
    simp only [Act.put, List.setIfInBounds_toArray, List.set_cons_zero, List.set_cons_succ]
    refine wpAnyH_take (i := 13) (oi := ⟨some 34, _, _, _, _, _⟩) (v := (.agg #[.int .i64 (l'), .int .i64 (h'), .int .i64 (c'), .string (b'), .string (d')])) rfl (by kernel_rfl) (by kernel_rfl) (by kernel_rfl) (fun _ _ _ h => h) (.inl ⟨by rfl, fun w hw => by dsimp only at hw; go_simp⟩) hHeld ?_
    simp only [Act.put, List.setIfInBounds_toArray, List.set_cons_zero, List.set_cons_succ]
    refine wpAnyH_take (i := 16) (oi := ⟨some 37, _, _, _, _, _⟩) (v := (.pointer (some ⟨x, 3, none⟩))) rfl (by kernel_rfl) (by kernel_rfl) (by kernel_rfl) (fun _ _ _ h => h) (.inl ⟨by rfl, fun w hw => by dsimp only at hw; go_simp⟩) hHeld ?_
    simp only [Act.put, List.setIfInBounds_toArray, List.set_cons_zero, List.set_cons_succ]
    refine wpAnyH_take (i := 17) (oi := ⟨some 38, _, _, _, _, _⟩) (v := (.string (b))) rfl (by kernel_rfl) (by kernel_rfl) (by kernel_rfl) (fun _ _ _ h => h) (.inl ⟨by rfl, fun w hw => by dsimp only at hw; go_simp⟩) hHeld ?_
    simp only [Act.put, List.setIfInBounds_toArray, List.set_cons_zero, List.set_cons_succ]
    refine wpAnyH_take (i := 18) (oi := ⟨some 39, _, _, _, _, _⟩) (v := (.pointer (some ⟨y, 4, none⟩))) rfl (by kernel_rfl) (by kernel_rfl) (by kernel_rfl) (fun _ _ _ h => h) (.inl ⟨by rfl, fun w hw => by dsimp only at hw; go_simp⟩) hHeld ?_
    simp only [Act.put, List.setIfInBounds_toArray, List.set_cons_zero, List.set_cons_succ]
    refine wpAnyH_take (i := 19) (oi := ⟨some 40, _, _, _, _, _⟩) (v := (.string (d'))) rfl (by kernel_rfl) (by kernel_rfl) (by kernel_rfl) (fun _ _ _ h => h) (.inl ⟨by rfl, fun w hw => by dsimp only at hw; go_simp⟩) hHeld ?_
    simp only [Act.put, List.setIfInBounds_toArray, List.set_cons_zero, List.set_cons_succ]
    refine wpAnyH_ready (rs := [1, 21]) (by kernel_rfl) (by simp) ?_
    refine AllReadyH.cons (o := ⟨some 22, _, _, _, _, _⟩) rfl (fun K hK => ?_) (AllReadyH.cons (o := ⟨some 5, _, _, _, _, _⟩) rfl (fun K hK => ?_) AllReadyH.nil)
    · skip
      go_simp
      refine (Hlow.out _).mono ?_
      rintro e Vz1 ⟨rfl, fz1⟩
      have HFz1 := Lib.hid (HF.out.trans fz1)
      refine hK.out _ _ ⟨fz1.cell hHeld.1 (fun h => h), fz1.cell hHeld.2.1 (fun h => h), fz1.cell hHeld.2.2.1 (fun h => h), fz1.cell hHeld.2.2.2.1 (fun h => h), fz1.cell hHeld.2.2.2.2.1 (fun h => h), fz1.cell hHeld.2.2.2.2.2.1 (fun h => h), fz1.cell hHeld.2.2.2.2.2.2.1 (fun h => h), fz1.cell hHeld.2.2.2.2.2.2.2.1 (fun h => h), fz1.cell hHeld.2.2.2.2.2.2.2.2.1 (fun h => h), fz1.cell hHeld.2.2.2.2.2.2.2.2.2.1 (fun h => h), hHeld.2.2.2.2.2.2.2.2.2.2.still fz1⟩ (fun hHeld => ?_)
      clear hK K fz1 HF
      refine wpAnyH_ready (rs := [3, 21]) (by kernel_rfl) (by simp) ?_
      refine AllReadyH.cons (o := ⟨some 24, _, _, _, _, _⟩) rfl (fun K hK => ?_) (AllReadyH.cons (o := ⟨some 5, _, _, _, _, _⟩) rfl (fun K hK => ?_) AllReadyH.nil)
      · skip
        go_simp
        refine (Hlow'.out _).mono ?_
        rintro e Vz2 ⟨rfl, fz2⟩
        have HFz2 := Lib.hid (HFz1.out.trans fz2)
        refine hK.out _ _ ⟨fz2.cell hHeld.1 (fun h => h), fz2.cell hHeld.2.1 (fun h => h), fz2.cell hHeld.2.2.1 (fun h => h), fz2.cell hHeld.2.2.2.1 (fun h => h), fz2.cell hHeld.2.2.2.2.1 (fun h => h), fz2.cell hHeld.2.2.2.2.2.1 (fun h => h), fz2.cell hHeld.2.2.2.2.2.2.1 (fun h => h), fz2.cell hHeld.2.2.2.2.2.2.2.1 (fun h => h), fz2.cell hHeld.2.2.2.2.2.2.2.2.1 (fun h => h), fz2.cell hHeld.2.2.2.2.2.2.2.2.2.1 (fun h => h), hHeld.2.2.2.2.2.2.2.2.2.2.still fz2⟩ (fun hHeld => ?_)
        clear hK K fz2 HFz1
        refine wpAnyH_take (i := 4) (oi := ⟨some 25, _, _, _, _, _⟩) (v := (.int .i64 ((L : Int) + (L' : Int)))) rfl (by kernel_rfl) (by kernel_rfl) (by kernel_rfl) (fun _ _ _ h => h) (.inl ⟨by rfl, fun w hw => by dsimp only at hw; go_simp⟩) hHeld ?_
        simp only [Act.put, List.setIfInBounds_toArray, List.set_cons_zero, List.set_cons_succ]
        refine wpAnyH_ready (rs := [6, 21]) (by kernel_rfl) (by simp) ?_
        refine AllReadyH.cons (o := ⟨some 27, _, _, _, _, _⟩) rfl (fun K hK => ?_) (AllReadyH.cons (o := ⟨some 5, _, _, _, _, _⟩) rfl (fun K hK => ?_) AllReadyH.nil)
        · skip
          go_simp
          refine (Hhigh.out _).mono ?_
          rintro e Vz3 ⟨rfl, fz3⟩
          have HFz3 := Lib.hid (HFz2.out.trans fz3)
          refine hK.out _ _ ⟨fz3.cell hHeld.1 (fun h => h), fz3.cell hHeld.2.1 (fun h => h), fz3.cell hHeld.2.2.1 (fun h => h), fz3.cell hHeld.2.2.2.1 (fun h => h), fz3.cell hHeld.2.2.2.2.1 (fun h => h), fz3.cell hHeld.2.2.2.2.2.1 (fun h => h), fz3.cell hHeld.2.2.2.2.2.2.1 (fun h => h), fz3.cell hHeld.2.2.2.2.2.2.2.1 (fun h => h), fz3.cell hHeld.2.2.2.2.2.2.2.2.1 (fun h => h), fz3.cell hHeld.2.2.2.2.2.2.2.2.2.1 (fun h => h), hHeld.2.2.2.2.2.2.2.2.2.2.still fz3⟩ (fun hHeld => ?_)
          clear hK K fz3 HFz2
          refine wpAnyH_ready (rs := [8, 21]) (by kernel_rfl) (by simp) ?_
          refine AllReadyH.cons (o := ⟨some 29, _, _, _, _, _⟩) rfl (fun K hK => ?_) (AllReadyH.cons (o := ⟨some 5, _, _, _, _, _⟩) rfl (fun K hK => ?_) AllReadyH.nil)
          · skip
            go_simp
            refine (Hhigh'.out _).mono ?_
            rintro e Vz4 ⟨rfl, fz4⟩
            have HFz4 := Lib.hid (HFz3.out.trans fz4)
            refine hK.out _ _ ⟨fz4.cell hHeld.1 (fun h => h), fz4.cell hHeld.2.1 (fun h => h), fz4.cell hHeld.2.2.1 (fun h => h), fz4.cell hHeld.2.2.2.1 (fun h => h), fz4.cell hHeld.2.2.2.2.1 (fun h => h), fz4.cell hHeld.2.2.2.2.2.1 (fun h => h), fz4.cell hHeld.2.2.2.2.2.2.1 (fun h => h), fz4.cell hHeld.2.2.2.2.2.2.2.1 (fun h => h), fz4.cell hHeld.2.2.2.2.2.2.2.2.1 (fun h => h), fz4.cell hHeld.2.2.2.2.2.2.2.2.2.1 (fun h => h), hHeld.2.2.2.2.2.2.2.2.2.2.still fz4⟩ (fun hHeld => ?_)
            clear hK K fz4 HFz3
            refine wpAnyH_take (i := 9) (oi := ⟨some 30, _, _, _, _, _⟩) (v := (.int .i64 ((H : Int) + (H' : Int)))) rfl (by kernel_rfl) (by kernel_rfl) (by kernel_rfl) (fun _ _ _ h => h) (.inl ⟨by rfl, fun w hw => by dsimp only at hw; go_simp⟩) hHeld ?_
            simp only [Act.put, List.setIfInBounds_toArray, List.set_cons_zero, List.set_cons_succ]
            refine wpAnyH_take (i := 10) (oi := ⟨some 31, _, _, _, _, _⟩) (v := (.int .i64 (min ((H : Int) + (H' : Int) : Int) (200 : Int)))) rfl (by kernel_rfl) (by kernel_rfl) (by kernel_rfl) (fun _ _ _ h => h) (.inl ⟨by rfl, fun w hw => by dsimp only at hw; go_simp⟩) hHeld ?_
            simp only [Act.put, List.setIfInBounds_toArray, List.set_cons_zero, List.set_cons_succ]
            refine wpAnyH_ready (rs := [12, 21]) (by kernel_rfl) (by simp) ?_
            refine AllReadyH.cons (o := ⟨some 33, _, _, _, _, _⟩) rfl (fun K hK => ?_) (AllReadyH.cons (o := ⟨some 5, _, _, _, _, _⟩) rfl (fun K hK => ?_) AllReadyH.nil)
            · skip
              go_simp
              refine (Hown.out _).mono ?_
              rintro e Vz5 ⟨rfl, fz5⟩
              have HFz5 := Lib.hid (HFz4.out.trans fz5)
              refine hK.out _ _ ⟨fz5.cell hHeld.1 (fun h => h), fz5.cell hHeld.2.1 (fun h => h), fz5.cell hHeld.2.2.1 (fun h => h), fz5.cell hHeld.2.2.2.1 (fun h => h), fz5.cell hHeld.2.2.2.2.1 (fun h => h), fz5.cell hHeld.2.2.2.2.2.1 (fun h => h), fz5.cell hHeld.2.2.2.2.2.2.1 (fun h => h), fz5.cell hHeld.2.2.2.2.2.2.2.1 (fun h => h), fz5.cell hHeld.2.2.2.2.2.2.2.2.1 (fun h => h), fz5.cell hHeld.2.2.2.2.2.2.2.2.2.1 (fun h => h), hHeld.2.2.2.2.2.2.2.2.2.2.still fz5⟩ (fun hHeld => ?_)
              clear hK K fz5 HFz4
              refine wpAnyH_ready (rs := [14, 21]) (by kernel_rfl) (by simp) ?_
              refine AllReadyH.cons (o := ⟨some 35, _, _, _, _, _⟩) rfl (fun K hK => ?_) (AllReadyH.cons (o := ⟨some 5, _, _, _, _, _⟩) rfl (fun K hK => ?_) AllReadyH.nil)
              · skip
                go_simp
                refine (Hown'.out _).mono ?_
                rintro e Vz6 ⟨rfl, fz6⟩
                have HFz6 := Lib.hid (HFz5.out.trans fz6)
                refine hK.out _ _ ⟨fz6.cell hHeld.1 (fun h => h), fz6.cell hHeld.2.1 (fun h => h), fz6.cell hHeld.2.2.1 (fun h => h), fz6.cell hHeld.2.2.2.1 (fun h => h), fz6.cell hHeld.2.2.2.2.1 (fun h => h), fz6.cell hHeld.2.2.2.2.2.1 (fun h => h), fz6.cell hHeld.2.2.2.2.2.2.1 (fun h => h), fz6.cell hHeld.2.2.2.2.2.2.2.1 (fun h => h), fz6.cell hHeld.2.2.2.2.2.2.2.2.1 (fun h => h), fz6.cell hHeld.2.2.2.2.2.2.2.2.2.1 (fun h => h), hHeld.2.2.2.2.2.2.2.2.2.2.still fz6⟩ (fun hHeld => ?_)
                clear hK K fz6 HFz5
                refine wpAnyH_take (i := 15) (oi := ⟨some 36, _, _, _, _, _⟩) (v := (.int .i64 (bits .or .i64 (O : Int) (O' : Int)))) rfl (by kernel_rfl) (by kernel_rfl) (by kernel_rfl) (fun _ _ _ h => h) (.inl ⟨by rfl, fun w hw => by dsimp only at hw; go_simp⟩) hHeld ?_
                simp only [Act.put, List.setIfInBounds_toArray, List.set_cons_zero, List.set_cons_succ]
                refine wpAnyH_take (i := 20) (oi := ⟨some 41, _, _, _, _, _⟩) (v := (.agg #[.int .i64 ((L : Int) + (L' : Int)), .int .i64 (min ((H : Int) + (H' : Int) : Int) (200 : Int)), .int .i64 (bits .or .i64 (O : Int) (O' : Int)), .string (b), .string (d')])) rfl (by kernel_rfl) (by kernel_rfl) (by kernel_rfl) (fun _ _ _ h => h) (.inl ⟨by rfl, fun w hw => by dsimp only at hw; go_simp⟩) hHeld ?_
                simp only [Act.put, List.setIfInBounds_toArray, List.set_cons_zero, List.set_cons_succ]
                refine wpAnyH_ready (rs := [21]) (by kernel_rfl) (by simp) ?_
                refine AllReadyH.cons (o := ⟨some 5, _, _, _, _, _⟩) rfl (fun K hK => ?_) AllReadyH.nil
                go_simp
                have hrm := Res.start w _ HFz6.out
                have fz7 := (Frm.refl (fun _ => False) Vz6).alloc (.cells #[.int .i64 0, .int .i64 0, .int .i64 0, .string ⟨#[]⟩, .string ⟨#[]⟩] 24)
                have hnxm : x ≠ Vz6.heap.size := fun e => by have := World.block_lt_of_cell? _ _ hHeld.1; simp only at this; omega
                have hnym : y ≠ Vz6.heap.size := fun e => by have := World.block_lt_of_cell? _ _ hHeld.2.2.2.2.2.1; simp only at this; omega
                have hngm : g ≠ Vz6.heap.size := fun e => by have := (hHeld.2.2.2.2.2.2.2.2.2.2).lt; omega
                obtain ⟨Vz7, hVz7⟩ : ∃ V, V = Vz6.alloc (.cells #[.int .i64 0, .int .i64 0, .int .i64 0, .string ⟨#[]⟩, .string ⟨#[]⟩] 24) := ⟨_, rfl⟩
                obtain ⟨m, hmz7⟩ : ∃ m, m = Vz6.heap.size := ⟨_, rfl⟩
                rw [← hVz7, ← hmz7] at hrm
                rw [← hVz7] at fz7
                rw [← hmz7] at hnxm hnym hngm
                rw [← hVz7, ← hmz7]
                clear hVz7 hmz7
                have HFz7 := Lib.hid (HFz6.out.trans fz7)
                refine hK.out _ _ ⟨fz7.cell hHeld.1 (fun h => h), fz7.cell hHeld.2.1 (fun h => h), fz7.cell hHeld.2.2.1 (fun h => h), fz7.cell hHeld.2.2.2.1 (fun h => h), fz7.cell hHeld.2.2.2.2.1 (fun h => h), fz7.cell hHeld.2.2.2.2.2.1 (fun h => h), fz7.cell hHeld.2.2.2.2.2.2.1 (fun h => h), fz7.cell hHeld.2.2.2.2.2.2.2.1 (fun h => h), fz7.cell hHeld.2.2.2.2.2.2.2.2.1 (fun h => h), fz7.cell hHeld.2.2.2.2.2.2.2.2.2.1 (fun h => h), hHeld.2.2.2.2.2.2.2.2.2.2.still fz7⟩ (fun hHeld => ?_)
                clear hK K fz7 HFz6
                refine wpAnyH_ready (rs := [22]) (by kernel_rfl) (by simp) ?_
                refine AllReadyH.cons (o := ⟨none, _, _, _, _, _⟩) rfl (fun K hK => ?_) AllReadyH.nil
                have hrz8 := hrm
                obtain ⟨u0, u1, u2, u3, u4, ⟨c0, c1, c2, c3, c4⟩, z0, z1, z2, z3, z4⟩ := hrz8.facts
                go_simp
                clear c0 c1 c2 c3 c4 z0 z1 z2 z3 z4
                obtain ⟨Vz8, hVz8, hrowz8, hresz8, hcellz8, hheapz8⟩ := hrz8.put2 (.int .i64 ((L : Int) + (L' : Int))) (.int .i64 (min ((H : Int) + (H' : Int) : Int) (200 : Int))) (.int .i64 (bits .or .i64 (O : Int) (O' : Int))) (.string (b)) (.string (d'))
                rw [hVz8]
                clear hVz8 hrz8
                refine hK.out _ _ ⟨hcellz8 _ _ _ hnxm hHeld.1, hcellz8 _ _ _ hnxm hHeld.2.1, hcellz8 _ _ _ hnxm hHeld.2.2.1, hcellz8 _ _ _ hnxm hHeld.2.2.2.1, hcellz8 _ _ _ hnxm hHeld.2.2.2.2.1, hcellz8 _ _ _ hnym hHeld.2.2.2.2.2.1, hcellz8 _ _ _ hnym hHeld.2.2.2.2.2.2.1, hcellz8 _ _ _ hnym hHeld.2.2.2.2.2.2.2.1, hcellz8 _ _ _ hnym hHeld.2.2.2.2.2.2.2.2.1, hcellz8 _ _ _ hnym hHeld.2.2.2.2.2.2.2.2.2.1, (hHeld.2.2.2.2.2.2.2.2.2.2).move hresz8.frm (hheapz8 _ hngm)⟩ (fun hHeld => ?_)
                clear hK K hcellz8
                refine wpAnyH_done (by kernel_rfl) ?_ _
                obtain ⟨a0, a1, a2, a3, a4, b0, b1, b2, b3, b4, hres⟩ := hHeld
                go_wp2_with fail
                go_meet
                case rel => exact ⟨m, rfl, hrowz8, ⟨a0, a1, a2, a3, a4⟩, ⟨b0, b1, b2, b3, b4⟩, hres, hresz8, hnxm, hnym, hngm⟩
              · skip
                go_simp
                have hrm := Res.start w _ HFz5.out
                have fz6 := (Frm.refl (fun _ => False) Vz5).alloc (.cells #[.int .i64 0, .int .i64 0, .int .i64 0, .string ⟨#[]⟩, .string ⟨#[]⟩] 24)
                have hnxm : x ≠ Vz5.heap.size := fun e => by have := World.block_lt_of_cell? _ _ hHeld.1; simp only at this; omega
                have hnym : y ≠ Vz5.heap.size := fun e => by have := World.block_lt_of_cell? _ _ hHeld.2.2.2.2.2.1; simp only at this; omega
                have hngm : g ≠ Vz5.heap.size := fun e => by have := (hHeld.2.2.2.2.2.2.2.2.2.2).lt; omega
                obtain ⟨Vz6, hVz6⟩ : ∃ V, V = Vz5.alloc (.cells #[.int .i64 0, .int .i64 0, .int .i64 0, .string ⟨#[]⟩, .string ⟨#[]⟩] 24) := ⟨_, rfl⟩
                obtain ⟨m, hmz6⟩ : ∃ m, m = Vz5.heap.size := ⟨_, rfl⟩
                rw [← hVz6, ← hmz6] at hrm
                rw [← hVz6] at fz6
                rw [← hmz6] at hnxm hnym hngm
                rw [← hVz6, ← hmz6]
                clear hVz6 hmz6
                have HFz6 := Lib.hid (HFz5.out.trans fz6)
                refine hK.out _ _ ⟨fz6.cell hHeld.1 (fun h => h), fz6.cell hHeld.2.1 (fun h => h), fz6.cell hHeld.2.2.1 (fun h => h), fz6.cell hHeld.2.2.2.1 (fun h => h), fz6.cell hHeld.2.2.2.2.1 (fun h => h), fz6.cell hHeld.2.2.2.2.2.1 (fun h => h), fz6.cell hHeld.2.2.2.2.2.2.1 (fun h => h), fz6.cell hHeld.2.2.2.2.2.2.2.1 (fun h => h), fz6.cell hHeld.2.2.2.2.2.2.2.2.1 (fun h => h), fz6.cell hHeld.2.2.2.2.2.2.2.2.2.1 (fun h => h), hHeld.2.2.2.2.2.2.2.2.2.2.still fz6⟩ (fun hHeld => ?_)
                clear hK K fz6 HFz5
                refine wpAnyH_ready (rs := [14]) (by kernel_rfl) (by simp) ?_
                refine AllReadyH.cons (o := ⟨some 35, _, _, _, _, _⟩) rfl (fun K hK => ?_) AllReadyH.nil
                go_simp
                refine (Hown'.out _).mono ?_
                rintro e Vz7 ⟨rfl, fz7⟩
                have HFz7 := Lib.hid (HFz6.out.trans fz7)
                have hrm := hrm.still fz7
                refine hK.out _ _ ⟨fz7.cell hHeld.1 (fun h => h), fz7.cell hHeld.2.1 (fun h => h), fz7.cell hHeld.2.2.1 (fun h => h), fz7.cell hHeld.2.2.2.1 (fun h => h), fz7.cell hHeld.2.2.2.2.1 (fun h => h), fz7.cell hHeld.2.2.2.2.2.1 (fun h => h), fz7.cell hHeld.2.2.2.2.2.2.1 (fun h => h), fz7.cell hHeld.2.2.2.2.2.2.2.1 (fun h => h), fz7.cell hHeld.2.2.2.2.2.2.2.2.1 (fun h => h), fz7.cell hHeld.2.2.2.2.2.2.2.2.2.1 (fun h => h), hHeld.2.2.2.2.2.2.2.2.2.2.still fz7⟩ (fun hHeld => ?_)
                clear hK K fz7 HFz6
                refine wpAnyH_take (i := 15) (oi := ⟨some 36, _, _, _, _, _⟩) (v := (.int .i64 (bits .or .i64 (O : Int) (O' : Int)))) rfl (by kernel_rfl) (by kernel_rfl) (by kernel_rfl) (fun _ _ _ h => h) (.inl ⟨by rfl, fun w hw => by dsimp only at hw; go_simp⟩) hHeld ?_
                simp only [Act.put, List.setIfInBounds_toArray, List.set_cons_zero, List.set_cons_succ]
                refine wpAnyH_take (i := 20) (oi := ⟨some 41, _, _, _, _, _⟩) (v := (.agg #[.int .i64 ((L : Int) + (L' : Int)), .int .i64 (min ((H : Int) + (H' : Int) : Int) (200 : Int)), .int .i64 (bits .or .i64 (O : Int) (O' : Int)), .string (b), .string (d')])) rfl (by kernel_rfl) (by kernel_rfl) (by kernel_rfl) (fun _ _ _ h => h) (.inl ⟨by rfl, fun w hw => by dsimp only at hw; go_simp⟩) hHeld ?_
                simp only [Act.put, List.setIfInBounds_toArray, List.set_cons_zero, List.set_cons_succ]
                refine wpAnyH_ready (rs := [22]) (by kernel_rfl) (by simp) ?_
                refine AllReadyH.cons (o := ⟨none, _, _, _, _, _⟩) rfl (fun K hK => ?_) AllReadyH.nil
                have hrz8 := hrm
                obtain ⟨u0, u1, u2, u3, u4, ⟨c0, c1, c2, c3, c4⟩, z0, z1, z2, z3, z4⟩ := hrz8.facts
                go_simp
                clear c0 c1 c2 c3 c4 z0 z1 z2 z3 z4
                obtain ⟨Vz8, hVz8, hrowz8, hresz8, hcellz8, hheapz8⟩ := hrz8.put2 (.int .i64 ((L : Int) + (L' : Int))) (.int .i64 (min ((H : Int) + (H' : Int) : Int) (200 : Int))) (.int .i64 (bits .or .i64 (O : Int) (O' : Int))) (.string (b)) (.string (d'))
                rw [hVz8]
                clear hVz8 hrz8
                refine hK.out _ _ ⟨hcellz8 _ _ _ hnxm hHeld.1, hcellz8 _ _ _ hnxm hHeld.2.1, hcellz8 _ _ _ hnxm hHeld.2.2.1, hcellz8 _ _ _ hnxm hHeld.2.2.2.1, hcellz8 _ _ _ hnxm hHeld.2.2.2.2.1, hcellz8 _ _ _ hnym hHeld.2.2.2.2.2.1, hcellz8 _ _ _ hnym hHeld.2.2.2.2.2.2.1, hcellz8 _ _ _ hnym hHeld.2.2.2.2.2.2.2.1, hcellz8 _ _ _ hnym hHeld.2.2.2.2.2.2.2.2.1, hcellz8 _ _ _ hnym hHeld.2.2.2.2.2.2.2.2.2.1, (hHeld.2.2.2.2.2.2.2.2.2.2).move hresz8.frm (hheapz8 _ hngm)⟩ (fun hHeld => ?_)
                clear hK K hcellz8
                refine wpAnyH_done (by kernel_rfl) ?_ _
                obtain ⟨a0, a1, a2, a3, a4, b0, b1, b2, b3, b4, hres⟩ := hHeld
                go_wp2_with fail
                go_meet
                case rel => exact ⟨m, rfl, hrowz8, ⟨a0, a1, a2, a3, a4⟩, ⟨b0, b1, b2, b3, b4⟩, hres, hresz8, hnxm, hnym, hngm⟩
            · skip
              go_simp
              have hrm := Res.start w _ HFz4.out
              have fz5 := (Frm.refl (fun _ => False) Vz4).alloc (.cells #[.int .i64 0, .int .i64 0, .int .i64 0, .string ⟨#[]⟩, .string ⟨#[]⟩] 24)
              have hnxm : x ≠ Vz4.heap.size := fun e => by have := World.block_lt_of_cell? _ _ hHeld.1; simp only at this; omega
              have hnym : y ≠ Vz4.heap.size := fun e => by have := World.block_lt_of_cell? _ _ hHeld.2.2.2.2.2.1; simp only at this; omega
              have hngm : g ≠ Vz4.heap.size := fun e => by have := (hHeld.2.2.2.2.2.2.2.2.2.2).lt; omega
              obtain ⟨Vz5, hVz5⟩ : ∃ V, V = Vz4.alloc (.cells #[.int .i64 0, .int .i64 0, .int .i64 0, .string ⟨#[]⟩, .string ⟨#[]⟩] 24) := ⟨_, rfl⟩
              obtain ⟨m, hmz5⟩ : ∃ m, m = Vz4.heap.size := ⟨_, rfl⟩
              rw [← hVz5, ← hmz5] at hrm
              rw [← hVz5] at fz5
              rw [← hmz5] at hnxm hnym hngm
              rw [← hVz5, ← hmz5]
              clear hVz5 hmz5
              have HFz5 := Lib.hid (HFz4.out.trans fz5)
              refine hK.out _ _ ⟨fz5.cell hHeld.1 (fun h => h), fz5.cell hHeld.2.1 (fun h => h), fz5.cell hHeld.2.2.1 (fun h => h), fz5.cell hHeld.2.2.2.1 (fun h => h), fz5.cell hHeld.2.2.2.2.1 (fun h => h), fz5.cell hHeld.2.2.2.2.2.1 (fun h => h), fz5.cell hHeld.2.2.2.2.2.2.1 (fun h => h), fz5.cell hHeld.2.2.2.2.2.2.2.1 (fun h => h), fz5.cell hHeld.2.2.2.2.2.2.2.2.1 (fun h => h), fz5.cell hHeld.2.2.2.2.2.2.2.2.2.1 (fun h => h), hHeld.2.2.2.2.2.2.2.2.2.2.still fz5⟩ (fun hHeld => ?_)
              clear hK K fz5 HFz4
              refine wpAnyH_ready (rs := [12]) (by kernel_rfl) (by simp) ?_
              refine AllReadyH.cons (o := ⟨some 33, _, _, _, _, _⟩) rfl (fun K hK => ?_) AllReadyH.nil
              go_simp
              refine (Hown.out _).mono ?_
              rintro e Vz6 ⟨rfl, fz6⟩
              have HFz6 := Lib.hid (HFz5.out.trans fz6)
              have hrm := hrm.still fz6
              refine hK.out _ _ ⟨fz6.cell hHeld.1 (fun h => h), fz6.cell hHeld.2.1 (fun h => h), fz6.cell hHeld.2.2.1 (fun h => h), fz6.cell hHeld.2.2.2.1 (fun h => h), fz6.cell hHeld.2.2.2.2.1 (fun h => h), fz6.cell hHeld.2.2.2.2.2.1 (fun h => h), fz6.cell hHeld.2.2.2.2.2.2.1 (fun h => h), fz6.cell hHeld.2.2.2.2.2.2.2.1 (fun h => h), fz6.cell hHeld.2.2.2.2.2.2.2.2.1 (fun h => h), fz6.cell hHeld.2.2.2.2.2.2.2.2.2.1 (fun h => h), hHeld.2.2.2.2.2.2.2.2.2.2.still fz6⟩ (fun hHeld => ?_)
              clear hK K fz6 HFz5
              refine wpAnyH_ready (rs := [14]) (by kernel_rfl) (by simp) ?_
              refine AllReadyH.cons (o := ⟨some 35, _, _, _, _, _⟩) rfl (fun K hK => ?_) AllReadyH.nil
              go_simp
              refine (Hown'.out _).mono ?_
              rintro e Vz7 ⟨rfl, fz7⟩
              have HFz7 := Lib.hid (HFz6.out.trans fz7)
              have hrm := hrm.still fz7
              refine hK.out _ _ ⟨fz7.cell hHeld.1 (fun h => h), fz7.cell hHeld.2.1 (fun h => h), fz7.cell hHeld.2.2.1 (fun h => h), fz7.cell hHeld.2.2.2.1 (fun h => h), fz7.cell hHeld.2.2.2.2.1 (fun h => h), fz7.cell hHeld.2.2.2.2.2.1 (fun h => h), fz7.cell hHeld.2.2.2.2.2.2.1 (fun h => h), fz7.cell hHeld.2.2.2.2.2.2.2.1 (fun h => h), fz7.cell hHeld.2.2.2.2.2.2.2.2.1 (fun h => h), fz7.cell hHeld.2.2.2.2.2.2.2.2.2.1 (fun h => h), hHeld.2.2.2.2.2.2.2.2.2.2.still fz7⟩ (fun hHeld => ?_)
              clear hK K fz7 HFz6
              refine wpAnyH_take (i := 15) (oi := ⟨some 36, _, _, _, _, _⟩) (v := (.int .i64 (bits .or .i64 (O : Int) (O' : Int)))) rfl (by kernel_rfl) (by kernel_rfl) (by kernel_rfl) (fun _ _ _ h => h) (.inl ⟨by rfl, fun w hw => by dsimp only at hw; go_simp⟩) hHeld ?_
              simp only [Act.put, List.setIfInBounds_toArray, List.set_cons_zero, List.set_cons_succ]
              refine wpAnyH_take (i := 20) (oi := ⟨some 41, _, _, _, _, _⟩) (v := (.agg #[.int .i64 ((L : Int) + (L' : Int)), .int .i64 (min ((H : Int) + (H' : Int) : Int) (200 : Int)), .int .i64 (bits .or .i64 (O : Int) (O' : Int)), .string (b), .string (d')])) rfl (by kernel_rfl) (by kernel_rfl) (by kernel_rfl) (fun _ _ _ h => h) (.inl ⟨by rfl, fun w hw => by dsimp only at hw; go_simp⟩) hHeld ?_
              simp only [Act.put, List.setIfInBounds_toArray, List.set_cons_zero, List.set_cons_succ]
              refine wpAnyH_ready (rs := [22]) (by kernel_rfl) (by simp) ?_
              refine AllReadyH.cons (o := ⟨none, _, _, _, _, _⟩) rfl (fun K hK => ?_) AllReadyH.nil
              have hrz8 := hrm
              obtain ⟨u0, u1, u2, u3, u4, ⟨c0, c1, c2, c3, c4⟩, z0, z1, z2, z3, z4⟩ := hrz8.facts
              go_simp
              clear c0 c1 c2 c3 c4 z0 z1 z2 z3 z4
              obtain ⟨Vz8, hVz8, hrowz8, hresz8, hcellz8, hheapz8⟩ := hrz8.put2 (.int .i64 ((L : Int) + (L' : Int))) (.int .i64 (min ((H : Int) + (H' : Int) : Int) (200 : Int))) (.int .i64 (bits .or .i64 (O : Int) (O' : Int))) (.string (b)) (.string (d'))
              rw [hVz8]
              clear hVz8 hrz8
              refine hK.out _ _ ⟨hcellz8 _ _ _ hnxm hHeld.1, hcellz8 _ _ _ hnxm hHeld.2.1, hcellz8 _ _ _ hnxm hHeld.2.2.1, hcellz8 _ _ _ hnxm hHeld.2.2.2.1, hcellz8 _ _ _ hnxm hHeld.2.2.2.2.1, hcellz8 _ _ _ hnym hHeld.2.2.2.2.2.1, hcellz8 _ _ _ hnym hHeld.2.2.2.2.2.2.1, hcellz8 _ _ _ hnym hHeld.2.2.2.2.2.2.2.1, hcellz8 _ _ _ hnym hHeld.2.2.2.2.2.2.2.2.1, hcellz8 _ _ _ hnym hHeld.2.2.2.2.2.2.2.2.2.1, (hHeld.2.2.2.2.2.2.2.2.2.2).move hresz8.frm (hheapz8 _ hngm)⟩ (fun hHeld => ?_)
              clear hK K hcellz8
              refine wpAnyH_done (by kernel_rfl) ?_ _
              obtain ⟨a0, a1, a2, a3, a4, b0, b1, b2, b3, b4, hres⟩ := hHeld
              go_wp2_with fail
              go_meet
              case rel => exact ⟨m, rfl, hrowz8, ⟨a0, a1, a2, a3, a4⟩, ⟨b0, b1, b2, b3, b4⟩, hres, hresz8, hnxm, hnym, hngm⟩
          · skip
            go_simp
            have hrm := Res.start w _ HFz3.out
            have fz4 := (Frm.refl (fun _ => False) Vz3).alloc (.cells #[.int .i64 0, .int .i64 0, .int .i64 0, .string ⟨#[]⟩, .string ⟨#[]⟩] 24)
            have hnxm : x ≠ Vz3.heap.size := fun e => by have := World.block_lt_of_cell? _ _ hHeld.1; simp only at this; omega
            have hnym : y ≠ Vz3.heap.size := fun e => by have := World.block_lt_of_cell? _ _ hHeld.2.2.2.2.2.1; simp only at this; omega
            have hngm : g ≠ Vz3.heap.size := fun e => by have := (hHeld.2.2.2.2.2.2.2.2.2.2).lt; omega
            obtain ⟨Vz4, hVz4⟩ : ∃ V, V = Vz3.alloc (.cells #[.int .i64 0, .int .i64 0, .int .i64 0, .string ⟨#[]⟩, .string ⟨#[]⟩] 24) := ⟨_, rfl⟩
            obtain ⟨m, hmz4⟩ : ∃ m, m = Vz3.heap.size := ⟨_, rfl⟩
            rw [← hVz4, ← hmz4] at hrm
            rw [← hVz4] at fz4
            rw [← hmz4] at hnxm hnym hngm
            rw [← hVz4, ← hmz4]
            clear hVz4 hmz4
            have HFz4 := Lib.hid (HFz3.out.trans fz4)
            refine hK.out _ _ ⟨fz4.cell hHeld.1 (fun h => h), fz4.cell hHeld.2.1 (fun h => h), fz4.cell hHeld.2.2.1 (fun h => h), fz4.cell hHeld.2.2.2.1 (fun h => h), fz4.cell hHeld.2.2.2.2.1 (fun h => h), fz4.cell hHeld.2.2.2.2.2.1 (fun h => h), fz4.cell hHeld.2.2.2.2.2.2.1 (fun h => h), fz4.cell hHeld.2.2.2.2.2.2.2.1 (fun h => h), fz4.cell hHeld.2.2.2.2.2.2.2.2.1 (fun h => h), fz4.cell hHeld.2.2.2.2.2.2.2.2.2.1 (fun h => h), hHeld.2.2.2.2.2.2.2.2.2.2.still fz4⟩ (fun hHeld => ?_)
            clear hK K fz4 HFz3
            refine wpAnyH_ready (rs := [8]) (by kernel_rfl) (by simp) ?_
            refine AllReadyH.cons (o := ⟨some 29, _, _, _, _, _⟩) rfl (fun K hK => ?_) AllReadyH.nil
            go_simp
            refine (Hhigh'.out _).mono ?_
            rintro e Vz5 ⟨rfl, fz5⟩
            have HFz5 := Lib.hid (HFz4.out.trans fz5)
            have hrm := hrm.still fz5
            refine hK.out _ _ ⟨fz5.cell hHeld.1 (fun h => h), fz5.cell hHeld.2.1 (fun h => h), fz5.cell hHeld.2.2.1 (fun h => h), fz5.cell hHeld.2.2.2.1 (fun h => h), fz5.cell hHeld.2.2.2.2.1 (fun h => h), fz5.cell hHeld.2.2.2.2.2.1 (fun h => h), fz5.cell hHeld.2.2.2.2.2.2.1 (fun h => h), fz5.cell hHeld.2.2.2.2.2.2.2.1 (fun h => h), fz5.cell hHeld.2.2.2.2.2.2.2.2.1 (fun h => h), fz5.cell hHeld.2.2.2.2.2.2.2.2.2.1 (fun h => h), hHeld.2.2.2.2.2.2.2.2.2.2.still fz5⟩ (fun hHeld => ?_)
            clear hK K fz5 HFz4
            refine wpAnyH_take (i := 9) (oi := ⟨some 30, _, _, _, _, _⟩) (v := (.int .i64 ((H : Int) + (H' : Int)))) rfl (by kernel_rfl) (by kernel_rfl) (by kernel_rfl) (fun _ _ _ h => h) (.inl ⟨by rfl, fun w hw => by dsimp only at hw; go_simp⟩) hHeld ?_
            simp only [Act.put, List.setIfInBounds_toArray, List.set_cons_zero, List.set_cons_succ]
            refine wpAnyH_take (i := 10) (oi := ⟨some 31, _, _, _, _, _⟩) (v := (.int .i64 (min ((H : Int) + (H' : Int) : Int) (200 : Int)))) rfl (by kernel_rfl) (by kernel_rfl) (by kernel_rfl) (fun _ _ _ h => h) (.inl ⟨by rfl, fun w hw => by dsimp only at hw; go_simp⟩) hHeld ?_
            simp only [Act.put, List.setIfInBounds_toArray, List.set_cons_zero, List.set_cons_succ]
            refine wpAnyH_ready (rs := [12]) (by kernel_rfl) (by simp) ?_
            refine AllReadyH.cons (o := ⟨some 33, _, _, _, _, _⟩) rfl (fun K hK => ?_) AllReadyH.nil
            go_simp
            refine (Hown.out _).mono ?_
            rintro e Vz6 ⟨rfl, fz6⟩
            have HFz6 := Lib.hid (HFz5.out.trans fz6)
            have hrm := hrm.still fz6
            refine hK.out _ _ ⟨fz6.cell hHeld.1 (fun h => h), fz6.cell hHeld.2.1 (fun h => h), fz6.cell hHeld.2.2.1 (fun h => h), fz6.cell hHeld.2.2.2.1 (fun h => h), fz6.cell hHeld.2.2.2.2.1 (fun h => h), fz6.cell hHeld.2.2.2.2.2.1 (fun h => h), fz6.cell hHeld.2.2.2.2.2.2.1 (fun h => h), fz6.cell hHeld.2.2.2.2.2.2.2.1 (fun h => h), fz6.cell hHeld.2.2.2.2.2.2.2.2.1 (fun h => h), fz6.cell hHeld.2.2.2.2.2.2.2.2.2.1 (fun h => h), hHeld.2.2.2.2.2.2.2.2.2.2.still fz6⟩ (fun hHeld => ?_)
            clear hK K fz6 HFz5
            refine wpAnyH_ready (rs := [14]) (by kernel_rfl) (by simp) ?_
            refine AllReadyH.cons (o := ⟨some 35, _, _, _, _, _⟩) rfl (fun K hK => ?_) AllReadyH.nil
            go_simp
            refine (Hown'.out _).mono ?_
            rintro e Vz7 ⟨rfl, fz7⟩
            have HFz7 := Lib.hid (HFz6.out.trans fz7)
            have hrm := hrm.still fz7
            refine hK.out _ _ ⟨fz7.cell hHeld.1 (fun h => h), fz7.cell hHeld.2.1 (fun h => h), fz7.cell hHeld.2.2.1 (fun h => h), fz7.cell hHeld.2.2.2.1 (fun h => h), fz7.cell hHeld.2.2.2.2.1 (fun h => h), fz7.cell hHeld.2.2.2.2.2.1 (fun h => h), fz7.cell hHeld.2.2.2.2.2.2.1 (fun h => h), fz7.cell hHeld.2.2.2.2.2.2.2.1 (fun h => h), fz7.cell hHeld.2.2.2.2.2.2.2.2.1 (fun h => h), fz7.cell hHeld.2.2.2.2.2.2.2.2.2.1 (fun h => h), hHeld.2.2.2.2.2.2.2.2.2.2.still fz7⟩ (fun hHeld => ?_)
            clear hK K fz7 HFz6
            refine wpAnyH_take (i := 15) (oi := ⟨some 36, _, _, _, _, _⟩) (v := (.int .i64 (bits .or .i64 (O : Int) (O' : Int)))) rfl (by kernel_rfl) (by kernel_rfl) (by kernel_rfl) (fun _ _ _ h => h) (.inl ⟨by rfl, fun w hw => by dsimp only at hw; go_simp⟩) hHeld ?_
            simp only [Act.put, List.setIfInBounds_toArray, List.set_cons_zero, List.set_cons_succ]
            refine wpAnyH_take (i := 20) (oi := ⟨some 41, _, _, _, _, _⟩) (v := (.agg #[.int .i64 ((L : Int) + (L' : Int)), .int .i64 (min ((H : Int) + (H' : Int) : Int) (200 : Int)), .int .i64 (bits .or .i64 (O : Int) (O' : Int)), .string (b), .string (d')])) rfl (by kernel_rfl) (by kernel_rfl) (by kernel_rfl) (fun _ _ _ h => h) (.inl ⟨by rfl, fun w hw => by dsimp only at hw; go_simp⟩) hHeld ?_
            simp only [Act.put, List.setIfInBounds_toArray, List.set_cons_zero, List.set_cons_succ]
            refine wpAnyH_ready (rs := [22]) (by kernel_rfl) (by simp) ?_
            refine AllReadyH.cons (o := ⟨none, _, _, _, _, _⟩) rfl (fun K hK => ?_) AllReadyH.nil
            have hrz8 := hrm
            obtain ⟨u0, u1, u2, u3, u4, ⟨c0, c1, c2, c3, c4⟩, z0, z1, z2, z3, z4⟩ := hrz8.facts
            go_simp
            clear c0 c1 c2 c3 c4 z0 z1 z2 z3 z4
            obtain ⟨Vz8, hVz8, hrowz8, hresz8, hcellz8, hheapz8⟩ := hrz8.put2 (.int .i64 ((L : Int) + (L' : Int))) (.int .i64 (min ((H : Int) + (H' : Int) : Int) (200 : Int))) (.int .i64 (bits .or .i64 (O : Int) (O' : Int))) (.string (b)) (.string (d'))
            rw [hVz8]
            clear hVz8 hrz8
            refine hK.out _ _ ⟨hcellz8 _ _ _ hnxm hHeld.1, hcellz8 _ _ _ hnxm hHeld.2.1, hcellz8 _ _ _ hnxm hHeld.2.2.1, hcellz8 _ _ _ hnxm hHeld.2.2.2.1, hcellz8 _ _ _ hnxm hHeld.2.2.2.2.1, hcellz8 _ _ _ hnym hHeld.2.2.2.2.2.1, hcellz8 _ _ _ hnym hHeld.2.2.2.2.2.2.1, hcellz8 _ _ _ hnym hHeld.2.2.2.2.2.2.2.1, hcellz8 _ _ _ hnym hHeld.2.2.2.2.2.2.2.2.1, hcellz8 _ _ _ hnym hHeld.2.2.2.2.2.2.2.2.2.1, (hHeld.2.2.2.2.2.2.2.2.2.2).move hresz8.frm (hheapz8 _ hngm)⟩ (fun hHeld => ?_)
            clear hK K hcellz8
            refine wpAnyH_done (by kernel_rfl) ?_ _
            obtain ⟨a0, a1, a2, a3, a4, b0, b1, b2, b3, b4, hres⟩ := hHeld
            go_wp2_with fail
            go_meet
            case rel => exact ⟨m, rfl, hrowz8, ⟨a0, a1, a2, a3, a4⟩, ⟨b0, b1, b2, b3, b4⟩, hres, hresz8, hnxm, hnym, hngm⟩
        · skip
          go_simp
          have hrm := Res.start w _ HFz2.out
          have fz3 := (Frm.refl (fun _ => False) Vz2).alloc (.cells #[.int .i64 0, .int .i64 0, .int .i64 0, .string ⟨#[]⟩, .string ⟨#[]⟩] 24)
          have hnxm : x ≠ Vz2.heap.size := fun e => by have := World.block_lt_of_cell? _ _ hHeld.1; simp only at this; omega
          have hnym : y ≠ Vz2.heap.size := fun e => by have := World.block_lt_of_cell? _ _ hHeld.2.2.2.2.2.1; simp only at this; omega
          have hngm : g ≠ Vz2.heap.size := fun e => by have := (hHeld.2.2.2.2.2.2.2.2.2.2).lt; omega
          obtain ⟨Vz3, hVz3⟩ : ∃ V, V = Vz2.alloc (.cells #[.int .i64 0, .int .i64 0, .int .i64 0, .string ⟨#[]⟩, .string ⟨#[]⟩] 24) := ⟨_, rfl⟩
          obtain ⟨m, hmz3⟩ : ∃ m, m = Vz2.heap.size := ⟨_, rfl⟩
          rw [← hVz3, ← hmz3] at hrm
          rw [← hVz3] at fz3
          rw [← hmz3] at hnxm hnym hngm
          rw [← hVz3, ← hmz3]
          clear hVz3 hmz3
          have HFz3 := Lib.hid (HFz2.out.trans fz3)
          refine hK.out _ _ ⟨fz3.cell hHeld.1 (fun h => h), fz3.cell hHeld.2.1 (fun h => h), fz3.cell hHeld.2.2.1 (fun h => h), fz3.cell hHeld.2.2.2.1 (fun h => h), fz3.cell hHeld.2.2.2.2.1 (fun h => h), fz3.cell hHeld.2.2.2.2.2.1 (fun h => h), fz3.cell hHeld.2.2.2.2.2.2.1 (fun h => h), fz3.cell hHeld.2.2.2.2.2.2.2.1 (fun h => h), fz3.cell hHeld.2.2.2.2.2.2.2.2.1 (fun h => h), fz3.cell hHeld.2.2.2.2.2.2.2.2.2.1 (fun h => h), hHeld.2.2.2.2.2.2.2.2.2.2.still fz3⟩ (fun hHeld => ?_)
          clear hK K fz3 HFz2
          refine wpAnyH_ready (rs := [6]) (by kernel_rfl) (by simp) ?_
          refine AllReadyH.cons (o := ⟨some 27, _, _, _, _, _⟩) rfl (fun K hK => ?_) AllReadyH.nil
          go_simp
          refine (Hhigh.out _).mono ?_
          rintro e Vz4 ⟨rfl, fz4⟩
          have HFz4 := Lib.hid (HFz3.out.trans fz4)
          have hrm := hrm.still fz4
          refine hK.out _ _ ⟨fz4.cell hHeld.1 (fun h => h), fz4.cell hHeld.2.1 (fun h => h), fz4.cell hHeld.2.2.1 (fun h => h), fz4.cell hHeld.2.2.2.1 (fun h => h), fz4.cell hHeld.2.2.2.2.1 (fun h => h), fz4.cell hHeld.2.2.2.2.2.1 (fun h => h), fz4.cell hHeld.2.2.2.2.2.2.1 (fun h => h), fz4.cell hHeld.2.2.2.2.2.2.2.1 (fun h => h), fz4.cell hHeld.2.2.2.2.2.2.2.2.1 (fun h => h), fz4.cell hHeld.2.2.2.2.2.2.2.2.2.1 (fun h => h), hHeld.2.2.2.2.2.2.2.2.2.2.still fz4⟩ (fun hHeld => ?_)
          clear hK K fz4 HFz3
          refine wpAnyH_ready (rs := [8]) (by kernel_rfl) (by simp) ?_
          refine AllReadyH.cons (o := ⟨some 29, _, _, _, _, _⟩) rfl (fun K hK => ?_) AllReadyH.nil
          go_simp
          refine (Hhigh'.out _).mono ?_
          rintro e Vz5 ⟨rfl, fz5⟩
          have HFz5 := Lib.hid (HFz4.out.trans fz5)
          have hrm := hrm.still fz5
          refine hK.out _ _ ⟨fz5.cell hHeld.1 (fun h => h), fz5.cell hHeld.2.1 (fun h => h), fz5.cell hHeld.2.2.1 (fun h => h), fz5.cell hHeld.2.2.2.1 (fun h => h), fz5.cell hHeld.2.2.2.2.1 (fun h => h), fz5.cell hHeld.2.2.2.2.2.1 (fun h => h), fz5.cell hHeld.2.2.2.2.2.2.1 (fun h => h), fz5.cell hHeld.2.2.2.2.2.2.2.1 (fun h => h), fz5.cell hHeld.2.2.2.2.2.2.2.2.1 (fun h => h), fz5.cell hHeld.2.2.2.2.2.2.2.2.2.1 (fun h => h), hHeld.2.2.2.2.2.2.2.2.2.2.still fz5⟩ (fun hHeld => ?_)
          clear hK K fz5 HFz4
          refine wpAnyH_take (i := 9) (oi := ⟨some 30, _, _, _, _, _⟩) (v := (.int .i64 ((H : Int) + (H' : Int)))) rfl (by kernel_rfl) (by kernel_rfl) (by kernel_rfl) (fun _ _ _ h => h) (.inl ⟨by rfl, fun w hw => by dsimp only at hw; go_simp⟩) hHeld ?_
          simp only [Act.put, List.setIfInBounds_toArray, List.set_cons_zero, List.set_cons_succ]
          refine wpAnyH_take (i := 10) (oi := ⟨some 31, _, _, _, _, _⟩) (v := (.int .i64 (min ((H : Int) + (H' : Int) : Int) (200 : Int)))) rfl (by kernel_rfl) (by kernel_rfl) (by kernel_rfl) (fun _ _ _ h => h) (.inl ⟨by rfl, fun w hw => by dsimp only at hw; go_simp⟩) hHeld ?_
          simp only [Act.put, List.setIfInBounds_toArray, List.set_cons_zero, List.set_cons_succ]
          refine wpAnyH_ready (rs := [12]) (by kernel_rfl) (by simp) ?_
          refine AllReadyH.cons (o := ⟨some 33, _, _, _, _, _⟩) rfl (fun K hK => ?_) AllReadyH.nil
          go_simp
          refine (Hown.out _).mono ?_
          rintro e Vz6 ⟨rfl, fz6⟩
          have HFz6 := Lib.hid (HFz5.out.trans fz6)
          have hrm := hrm.still fz6
          refine hK.out _ _ ⟨fz6.cell hHeld.1 (fun h => h), fz6.cell hHeld.2.1 (fun h => h), fz6.cell hHeld.2.2.1 (fun h => h), fz6.cell hHeld.2.2.2.1 (fun h => h), fz6.cell hHeld.2.2.2.2.1 (fun h => h), fz6.cell hHeld.2.2.2.2.2.1 (fun h => h), fz6.cell hHeld.2.2.2.2.2.2.1 (fun h => h), fz6.cell hHeld.2.2.2.2.2.2.2.1 (fun h => h), fz6.cell hHeld.2.2.2.2.2.2.2.2.1 (fun h => h), fz6.cell hHeld.2.2.2.2.2.2.2.2.2.1 (fun h => h), hHeld.2.2.2.2.2.2.2.2.2.2.still fz6⟩ (fun hHeld => ?_)
          clear hK K fz6 HFz5
          refine wpAnyH_ready (rs := [14]) (by kernel_rfl) (by simp) ?_
          refine AllReadyH.cons (o := ⟨some 35, _, _, _, _, _⟩) rfl (fun K hK => ?_) AllReadyH.nil
          go_simp
          refine (Hown'.out _).mono ?_
          rintro e Vz7 ⟨rfl, fz7⟩
          have HFz7 := Lib.hid (HFz6.out.trans fz7)
          have hrm := hrm.still fz7
          refine hK.out _ _ ⟨fz7.cell hHeld.1 (fun h => h), fz7.cell hHeld.2.1 (fun h => h), fz7.cell hHeld.2.2.1 (fun h => h), fz7.cell hHeld.2.2.2.1 (fun h => h), fz7.cell hHeld.2.2.2.2.1 (fun h => h), fz7.cell hHeld.2.2.2.2.2.1 (fun h => h), fz7.cell hHeld.2.2.2.2.2.2.1 (fun h => h), fz7.cell hHeld.2.2.2.2.2.2.2.1 (fun h => h), fz7.cell hHeld.2.2.2.2.2.2.2.2.1 (fun h => h), fz7.cell hHeld.2.2.2.2.2.2.2.2.2.1 (fun h => h), hHeld.2.2.2.2.2.2.2.2.2.2.still fz7⟩ (fun hHeld => ?_)
          clear hK K fz7 HFz6
          refine wpAnyH_take (i := 15) (oi := ⟨some 36, _, _, _, _, _⟩) (v := (.int .i64 (bits .or .i64 (O : Int) (O' : Int)))) rfl (by kernel_rfl) (by kernel_rfl) (by kernel_rfl) (fun _ _ _ h => h) (.inl ⟨by rfl, fun w hw => by dsimp only at hw; go_simp⟩) hHeld ?_
          simp only [Act.put, List.setIfInBounds_toArray, List.set_cons_zero, List.set_cons_succ]
          refine wpAnyH_take (i := 20) (oi := ⟨some 41, _, _, _, _, _⟩) (v := (.agg #[.int .i64 ((L : Int) + (L' : Int)), .int .i64 (min ((H : Int) + (H' : Int) : Int) (200 : Int)), .int .i64 (bits .or .i64 (O : Int) (O' : Int)), .string (b), .string (d')])) rfl (by kernel_rfl) (by kernel_rfl) (by kernel_rfl) (fun _ _ _ h => h) (.inl ⟨by rfl, fun w hw => by dsimp only at hw; go_simp⟩) hHeld ?_
          simp only [Act.put, List.setIfInBounds_toArray, List.set_cons_zero, List.set_cons_succ]
          refine wpAnyH_ready (rs := [22]) (by kernel_rfl) (by simp) ?_
          refine AllReadyH.cons (o := ⟨none, _, _, _, _, _⟩) rfl (fun K hK => ?_) AllReadyH.nil
          have hrz8 := hrm
          obtain ⟨u0, u1, u2, u3, u4, ⟨c0, c1, c2, c3, c4⟩, z0, z1, z2, z3, z4⟩ := hrz8.facts
          go_simp
          clear c0 c1 c2 c3 c4 z0 z1 z2 z3 z4
          obtain ⟨Vz8, hVz8, hrowz8, hresz8, hcellz8, hheapz8⟩ := hrz8.put2 (.int .i64 ((L : Int) + (L' : Int))) (.int .i64 (min ((H : Int) + (H' : Int) : Int) (200 : Int))) (.int .i64 (bits .or .i64 (O : Int) (O' : Int))) (.string (b)) (.string (d'))
          rw [hVz8]
          clear hVz8 hrz8
          refine hK.out _ _ ⟨hcellz8 _ _ _ hnxm hHeld.1, hcellz8 _ _ _ hnxm hHeld.2.1, hcellz8 _ _ _ hnxm hHeld.2.2.1, hcellz8 _ _ _ hnxm hHeld.2.2.2.1, hcellz8 _ _ _ hnxm hHeld.2.2.2.2.1, hcellz8 _ _ _ hnym hHeld.2.2.2.2.2.1, hcellz8 _ _ _ hnym hHeld.2.2.2.2.2.2.1, hcellz8 _ _ _ hnym hHeld.2.2.2.2.2.2.2.1, hcellz8 _ _ _ hnym hHeld.2.2.2.2.2.2.2.2.1, hcellz8 _ _ _ hnym hHeld.2.2.2.2.2.2.2.2.2.1, (hHeld.2.2.2.2.2.2.2.2.2.2).move hresz8.frm (hheapz8 _ hngm)⟩ (fun hHeld => ?_)
          clear hK K hcellz8
          refine wpAnyH_done (by kernel_rfl) ?_ _
          obtain ⟨a0, a1, a2, a3, a4, b0, b1, b2, b3, b4, hres⟩ := hHeld
          go_wp2_with fail
          go_meet
          case rel => exact ⟨m, rfl, hrowz8, ⟨a0, a1, a2, a3, a4⟩, ⟨b0, b1, b2, b3, b4⟩, hres, hresz8, hnxm, hnym, hngm⟩
      · skip
        go_simp
        have hrm := Res.start w _ HFz1.out
        have fz2 := (Frm.refl (fun _ => False) Vz1).alloc (.cells #[.int .i64 0, .int .i64 0, .int .i64 0, .string ⟨#[]⟩, .string ⟨#[]⟩] 24)
        have hnxm : x ≠ Vz1.heap.size := fun e => by have := World.block_lt_of_cell? _ _ hHeld.1; simp only at this; omega
        have hnym : y ≠ Vz1.heap.size := fun e => by have := World.block_lt_of_cell? _ _ hHeld.2.2.2.2.2.1; simp only at this; omega
        have hngm : g ≠ Vz1.heap.size := fun e => by have := (hHeld.2.2.2.2.2.2.2.2.2.2).lt; omega
        obtain ⟨Vz2, hVz2⟩ : ∃ V, V = Vz1.alloc (.cells #[.int .i64 0, .int .i64 0, .int .i64 0, .string ⟨#[]⟩, .string ⟨#[]⟩] 24) := ⟨_, rfl⟩
        obtain ⟨m, hmz2⟩ : ∃ m, m = Vz1.heap.size := ⟨_, rfl⟩
        rw [← hVz2, ← hmz2] at hrm
        rw [← hVz2] at fz2
        rw [← hmz2] at hnxm hnym hngm
        rw [← hVz2, ← hmz2]
        clear hVz2 hmz2
        have HFz2 := Lib.hid (HFz1.out.trans fz2)
        refine hK.out _ _ ⟨fz2.cell hHeld.1 (fun h => h), fz2.cell hHeld.2.1 (fun h => h), fz2.cell hHeld.2.2.1 (fun h => h), fz2.cell hHeld.2.2.2.1 (fun h => h), fz2.cell hHeld.2.2.2.2.1 (fun h => h), fz2.cell hHeld.2.2.2.2.2.1 (fun h => h), fz2.cell hHeld.2.2.2.2.2.2.1 (fun h => h), fz2.cell hHeld.2.2.2.2.2.2.2.1 (fun h => h), fz2.cell hHeld.2.2.2.2.2.2.2.2.1 (fun h => h), fz2.cell hHeld.2.2.2.2.2.2.2.2.2.1 (fun h => h), hHeld.2.2.2.2.2.2.2.2.2.2.still fz2⟩ (fun hHeld => ?_)
        clear hK K fz2 HFz1
        refine wpAnyH_ready (rs := [3]) (by kernel_rfl) (by simp) ?_
        refine AllReadyH.cons (o := ⟨some 24, _, _, _, _, _⟩) rfl (fun K hK => ?_) AllReadyH.nil
        go_simp
        refine (Hlow'.out _).mono ?_
        rintro e Vz3 ⟨rfl, fz3⟩
        have HFz3 := Lib.hid (HFz2.out.trans fz3)
        have hrm := hrm.still fz3
        refine hK.out _ _ ⟨fz3.cell hHeld.1 (fun h => h), fz3.cell hHeld.2.1 (fun h => h), fz3.cell hHeld.2.2.1 (fun h => h), fz3.cell hHeld.2.2.2.1 (fun h => h), fz3.cell hHeld.2.2.2.2.1 (fun h => h), fz3.cell hHeld.2.2.2.2.2.1 (fun h => h), fz3.cell hHeld.2.2.2.2.2.2.1 (fun h => h), fz3.cell hHeld.2.2.2.2.2.2.2.1 (fun h => h), fz3.cell hHeld.2.2.2.2.2.2.2.2.1 (fun h => h), fz3.cell hHeld.2.2.2.2.2.2.2.2.2.1 (fun h => h), hHeld.2.2.2.2.2.2.2.2.2.2.still fz3⟩ (fun hHeld => ?_)
        clear hK K fz3 HFz2
        refine wpAnyH_take (i := 4) (oi := ⟨some 25, _, _, _, _, _⟩) (v := (.int .i64 ((L : Int) + (L' : Int)))) rfl (by kernel_rfl) (by kernel_rfl) (by kernel_rfl) (fun _ _ _ h => h) (.inl ⟨by rfl, fun w hw => by dsimp only at hw; go_simp⟩) hHeld ?_
        simp only [Act.put, List.setIfInBounds_toArray, List.set_cons_zero, List.set_cons_succ]
        refine wpAnyH_ready (rs := [6]) (by kernel_rfl) (by simp) ?_
        refine AllReadyH.cons (o := ⟨some 27, _, _, _, _, _⟩) rfl (fun K hK => ?_) AllReadyH.nil
        go_simp
        refine (Hhigh.out _).mono ?_
        rintro e Vz4 ⟨rfl, fz4⟩
        have HFz4 := Lib.hid (HFz3.out.trans fz4)
        have hrm := hrm.still fz4
        refine hK.out _ _ ⟨fz4.cell hHeld.1 (fun h => h), fz4.cell hHeld.2.1 (fun h => h), fz4.cell hHeld.2.2.1 (fun h => h), fz4.cell hHeld.2.2.2.1 (fun h => h), fz4.cell hHeld.2.2.2.2.1 (fun h => h), fz4.cell hHeld.2.2.2.2.2.1 (fun h => h), fz4.cell hHeld.2.2.2.2.2.2.1 (fun h => h), fz4.cell hHeld.2.2.2.2.2.2.2.1 (fun h => h), fz4.cell hHeld.2.2.2.2.2.2.2.2.1 (fun h => h), fz4.cell hHeld.2.2.2.2.2.2.2.2.2.1 (fun h => h), hHeld.2.2.2.2.2.2.2.2.2.2.still fz4⟩ (fun hHeld => ?_)
        clear hK K fz4 HFz3
        refine wpAnyH_ready (rs := [8]) (by kernel_rfl) (by simp) ?_
        refine AllReadyH.cons (o := ⟨some 29, _, _, _, _, _⟩) rfl (fun K hK => ?_) AllReadyH.nil
        go_simp
        refine (Hhigh'.out _).mono ?_
        rintro e Vz5 ⟨rfl, fz5⟩
        have HFz5 := Lib.hid (HFz4.out.trans fz5)
        have hrm := hrm.still fz5
        refine hK.out _ _ ⟨fz5.cell hHeld.1 (fun h => h), fz5.cell hHeld.2.1 (fun h => h), fz5.cell hHeld.2.2.1 (fun h => h), fz5.cell hHeld.2.2.2.1 (fun h => h), fz5.cell hHeld.2.2.2.2.1 (fun h => h), fz5.cell hHeld.2.2.2.2.2.1 (fun h => h), fz5.cell hHeld.2.2.2.2.2.2.1 (fun h => h), fz5.cell hHeld.2.2.2.2.2.2.2.1 (fun h => h), fz5.cell hHeld.2.2.2.2.2.2.2.2.1 (fun h => h), fz5.cell hHeld.2.2.2.2.2.2.2.2.2.1 (fun h => h), hHeld.2.2.2.2.2.2.2.2.2.2.still fz5⟩ (fun hHeld => ?_)
        clear hK K fz5 HFz4
        refine wpAnyH_take (i := 9) (oi := ⟨some 30, _, _, _, _, _⟩) (v := (.int .i64 ((H : Int) + (H' : Int)))) rfl (by kernel_rfl) (by kernel_rfl) (by kernel_rfl) (fun _ _ _ h => h) (.inl ⟨by rfl, fun w hw => by dsimp only at hw; go_simp⟩) hHeld ?_
        simp only [Act.put, List.setIfInBounds_toArray, List.set_cons_zero, List.set_cons_succ]
        refine wpAnyH_take (i := 10) (oi := ⟨some 31, _, _, _, _, _⟩) (v := (.int .i64 (min ((H : Int) + (H' : Int) : Int) (200 : Int)))) rfl (by kernel_rfl) (by kernel_rfl) (by kernel_rfl) (fun _ _ _ h => h) (.inl ⟨by rfl, fun w hw => by dsimp only at hw; go_simp⟩) hHeld ?_
        simp only [Act.put, List.setIfInBounds_toArray, List.set_cons_zero, List.set_cons_succ]
        refine wpAnyH_ready (rs := [12]) (by kernel_rfl) (by simp) ?_
        refine AllReadyH.cons (o := ⟨some 33, _, _, _, _, _⟩) rfl (fun K hK => ?_) AllReadyH.nil
        go_simp
        refine (Hown.out _).mono ?_
        rintro e Vz6 ⟨rfl, fz6⟩
        have HFz6 := Lib.hid (HFz5.out.trans fz6)
        have hrm := hrm.still fz6
        refine hK.out _ _ ⟨fz6.cell hHeld.1 (fun h => h), fz6.cell hHeld.2.1 (fun h => h), fz6.cell hHeld.2.2.1 (fun h => h), fz6.cell hHeld.2.2.2.1 (fun h => h), fz6.cell hHeld.2.2.2.2.1 (fun h => h), fz6.cell hHeld.2.2.2.2.2.1 (fun h => h), fz6.cell hHeld.2.2.2.2.2.2.1 (fun h => h), fz6.cell hHeld.2.2.2.2.2.2.2.1 (fun h => h), fz6.cell hHeld.2.2.2.2.2.2.2.2.1 (fun h => h), fz6.cell hHeld.2.2.2.2.2.2.2.2.2.1 (fun h => h), hHeld.2.2.2.2.2.2.2.2.2.2.still fz6⟩ (fun hHeld => ?_)
        clear hK K fz6 HFz5
        refine wpAnyH_ready (rs := [14]) (by kernel_rfl) (by simp) ?_
        refine AllReadyH.cons (o := ⟨some 35, _, _, _, _, _⟩) rfl (fun K hK => ?_) AllReadyH.nil
        go_simp
        refine (Hown'.out _).mono ?_
        rintro e Vz7 ⟨rfl, fz7⟩
        have HFz7 := Lib.hid (HFz6.out.trans fz7)
        have hrm := hrm.still fz7
        refine hK.out _ _ ⟨fz7.cell hHeld.1 (fun h => h), fz7.cell hHeld.2.1 (fun h => h), fz7.cell hHeld.2.2.1 (fun h => h), fz7.cell hHeld.2.2.2.1 (fun h => h), fz7.cell hHeld.2.2.2.2.1 (fun h => h), fz7.cell hHeld.2.2.2.2.2.1 (fun h => h), fz7.cell hHeld.2.2.2.2.2.2.1 (fun h => h), fz7.cell hHeld.2.2.2.2.2.2.2.1 (fun h => h), fz7.cell hHeld.2.2.2.2.2.2.2.2.1 (fun h => h), fz7.cell hHeld.2.2.2.2.2.2.2.2.2.1 (fun h => h), hHeld.2.2.2.2.2.2.2.2.2.2.still fz7⟩ (fun hHeld => ?_)
        clear hK K fz7 HFz6
        refine wpAnyH_take (i := 15) (oi := ⟨some 36, _, _, _, _, _⟩) (v := (.int .i64 (bits .or .i64 (O : Int) (O' : Int)))) rfl (by kernel_rfl) (by kernel_rfl) (by kernel_rfl) (fun _ _ _ h => h) (.inl ⟨by rfl, fun w hw => by dsimp only at hw; go_simp⟩) hHeld ?_
        simp only [Act.put, List.setIfInBounds_toArray, List.set_cons_zero, List.set_cons_succ]
        refine wpAnyH_take (i := 20) (oi := ⟨some 41, _, _, _, _, _⟩) (v := (.agg #[.int .i64 ((L : Int) + (L' : Int)), .int .i64 (min ((H : Int) + (H' : Int) : Int) (200 : Int)), .int .i64 (bits .or .i64 (O : Int) (O' : Int)), .string (b), .string (d')])) rfl (by kernel_rfl) (by kernel_rfl) (by kernel_rfl) (fun _ _ _ h => h) (.inl ⟨by rfl, fun w hw => by dsimp only at hw; go_simp⟩) hHeld ?_
        simp only [Act.put, List.setIfInBounds_toArray, List.set_cons_zero, List.set_cons_succ]
        refine wpAnyH_ready (rs := [22]) (by kernel_rfl) (by simp) ?_
        refine AllReadyH.cons (o := ⟨none, _, _, _, _, _⟩) rfl (fun K hK => ?_) AllReadyH.nil
        have hrz8 := hrm
        obtain ⟨u0, u1, u2, u3, u4, ⟨c0, c1, c2, c3, c4⟩, z0, z1, z2, z3, z4⟩ := hrz8.facts
        go_simp
        clear c0 c1 c2 c3 c4 z0 z1 z2 z3 z4
        obtain ⟨Vz8, hVz8, hrowz8, hresz8, hcellz8, hheapz8⟩ := hrz8.put2 (.int .i64 ((L : Int) + (L' : Int))) (.int .i64 (min ((H : Int) + (H' : Int) : Int) (200 : Int))) (.int .i64 (bits .or .i64 (O : Int) (O' : Int))) (.string (b)) (.string (d'))
        rw [hVz8]
        clear hVz8 hrz8
        refine hK.out _ _ ⟨hcellz8 _ _ _ hnxm hHeld.1, hcellz8 _ _ _ hnxm hHeld.2.1, hcellz8 _ _ _ hnxm hHeld.2.2.1, hcellz8 _ _ _ hnxm hHeld.2.2.2.1, hcellz8 _ _ _ hnxm hHeld.2.2.2.2.1, hcellz8 _ _ _ hnym hHeld.2.2.2.2.2.1, hcellz8 _ _ _ hnym hHeld.2.2.2.2.2.2.1, hcellz8 _ _ _ hnym hHeld.2.2.2.2.2.2.2.1, hcellz8 _ _ _ hnym hHeld.2.2.2.2.2.2.2.2.1, hcellz8 _ _ _ hnym hHeld.2.2.2.2.2.2.2.2.2.1, (hHeld.2.2.2.2.2.2.2.2.2.2).move hresz8.frm (hheapz8 _ hngm)⟩ (fun hHeld => ?_)
        clear hK K hcellz8
        refine wpAnyH_done (by kernel_rfl) ?_ _
        obtain ⟨a0, a1, a2, a3, a4, b0, b1, b2, b3, b4, hres⟩ := hHeld
        go_wp2_with fail
        go_meet
        case rel => exact ⟨m, rfl, hrowz8, ⟨a0, a1, a2, a3, a4⟩, ⟨b0, b1, b2, b3, b4⟩, hres, hresz8, hnxm, hnym, hngm⟩
    · skip
      go_simp
      have hrm := Res.start w _ HF.out
      have fz1 := (Frm.refl (fun _ => False) V0).alloc (.cells #[.int .i64 0, .int .i64 0, .int .i64 0, .string ⟨#[]⟩, .string ⟨#[]⟩] 24)
      have hnxm : x ≠ V0.heap.size := fun e => by have := World.block_lt_of_cell? _ _ hHeld.1; simp only at this; omega
      have hnym : y ≠ V0.heap.size := fun e => by have := World.block_lt_of_cell? _ _ hHeld.2.2.2.2.2.1; simp only at this; omega
      have hngm : g ≠ V0.heap.size := fun e => by have := (hHeld.2.2.2.2.2.2.2.2.2.2).lt; omega
      obtain ⟨Vz1, hVz1⟩ : ∃ V, V = V0.alloc (.cells #[.int .i64 0, .int .i64 0, .int .i64 0, .string ⟨#[]⟩, .string ⟨#[]⟩] 24) := ⟨_, rfl⟩
      obtain ⟨m, hmz1⟩ : ∃ m, m = V0.heap.size := ⟨_, rfl⟩
      rw [← hVz1, ← hmz1] at hrm
      rw [← hVz1] at fz1
      rw [← hmz1] at hnxm hnym hngm
      rw [← hVz1, ← hmz1]
      clear hVz1 hmz1
      have HFz1 := Lib.hid (HF.out.trans fz1)
      refine hK.out _ _ ⟨fz1.cell hHeld.1 (fun h => h), fz1.cell hHeld.2.1 (fun h => h), fz1.cell hHeld.2.2.1 (fun h => h), fz1.cell hHeld.2.2.2.1 (fun h => h), fz1.cell hHeld.2.2.2.2.1 (fun h => h), fz1.cell hHeld.2.2.2.2.2.1 (fun h => h), fz1.cell hHeld.2.2.2.2.2.2.1 (fun h => h), fz1.cell hHeld.2.2.2.2.2.2.2.1 (fun h => h), fz1.cell hHeld.2.2.2.2.2.2.2.2.1 (fun h => h), fz1.cell hHeld.2.2.2.2.2.2.2.2.2.1 (fun h => h), hHeld.2.2.2.2.2.2.2.2.2.2.still fz1⟩ (fun hHeld => ?_)
      clear hK K fz1 HF
      refine wpAnyH_ready (rs := [1]) (by kernel_rfl) (by simp) ?_
      refine AllReadyH.cons (o := ⟨some 22, _, _, _, _, _⟩) rfl (fun K hK => ?_) AllReadyH.nil
      go_simp
      refine (Hlow.out _).mono ?_
      rintro e Vz2 ⟨rfl, fz2⟩
      have HFz2 := Lib.hid (HFz1.out.trans fz2)
      have hrm := hrm.still fz2
      refine hK.out _ _ ⟨fz2.cell hHeld.1 (fun h => h), fz2.cell hHeld.2.1 (fun h => h), fz2.cell hHeld.2.2.1 (fun h => h), fz2.cell hHeld.2.2.2.1 (fun h => h), fz2.cell hHeld.2.2.2.2.1 (fun h => h), fz2.cell hHeld.2.2.2.2.2.1 (fun h => h), fz2.cell hHeld.2.2.2.2.2.2.1 (fun h => h), fz2.cell hHeld.2.2.2.2.2.2.2.1 (fun h => h), fz2.cell hHeld.2.2.2.2.2.2.2.2.1 (fun h => h), fz2.cell hHeld.2.2.2.2.2.2.2.2.2.1 (fun h => h), hHeld.2.2.2.2.2.2.2.2.2.2.still fz2⟩ (fun hHeld => ?_)
      clear hK K fz2 HFz1
      refine wpAnyH_ready (rs := [3]) (by kernel_rfl) (by simp) ?_
      refine AllReadyH.cons (o := ⟨some 24, _, _, _, _, _⟩) rfl (fun K hK => ?_) AllReadyH.nil
      go_simp
      refine (Hlow'.out _).mono ?_
      rintro e Vz3 ⟨rfl, fz3⟩
      have HFz3 := Lib.hid (HFz2.out.trans fz3)
      have hrm := hrm.still fz3
      refine hK.out _ _ ⟨fz3.cell hHeld.1 (fun h => h), fz3.cell hHeld.2.1 (fun h => h), fz3.cell hHeld.2.2.1 (fun h => h), fz3.cell hHeld.2.2.2.1 (fun h => h), fz3.cell hHeld.2.2.2.2.1 (fun h => h), fz3.cell hHeld.2.2.2.2.2.1 (fun h => h), fz3.cell hHeld.2.2.2.2.2.2.1 (fun h => h), fz3.cell hHeld.2.2.2.2.2.2.2.1 (fun h => h), fz3.cell hHeld.2.2.2.2.2.2.2.2.1 (fun h => h), fz3.cell hHeld.2.2.2.2.2.2.2.2.2.1 (fun h => h), hHeld.2.2.2.2.2.2.2.2.2.2.still fz3⟩ (fun hHeld => ?_)
      clear hK K fz3 HFz2
      refine wpAnyH_take (i := 4) (oi := ⟨some 25, _, _, _, _, _⟩) (v := (.int .i64 ((L : Int) + (L' : Int)))) rfl (by kernel_rfl) (by kernel_rfl) (by kernel_rfl) (fun _ _ _ h => h) (.inl ⟨by rfl, fun w hw => by dsimp only at hw; go_simp⟩) hHeld ?_
      simp only [Act.put, List.setIfInBounds_toArray, List.set_cons_zero, List.set_cons_succ]
      refine wpAnyH_ready (rs := [6]) (by kernel_rfl) (by simp) ?_
      refine AllReadyH.cons (o := ⟨some 27, _, _, _, _, _⟩) rfl (fun K hK => ?_) AllReadyH.nil
      go_simp
      refine (Hhigh.out _).mono ?_
      rintro e Vz4 ⟨rfl, fz4⟩
      have HFz4 := Lib.hid (HFz3.out.trans fz4)
      have hrm := hrm.still fz4
      refine hK.out _ _ ⟨fz4.cell hHeld.1 (fun h => h), fz4.cell hHeld.2.1 (fun h => h), fz4.cell hHeld.2.2.1 (fun h => h), fz4.cell hHeld.2.2.2.1 (fun h => h), fz4.cell hHeld.2.2.2.2.1 (fun h => h), fz4.cell hHeld.2.2.2.2.2.1 (fun h => h), fz4.cell hHeld.2.2.2.2.2.2.1 (fun h => h), fz4.cell hHeld.2.2.2.2.2.2.2.1 (fun h => h), fz4.cell hHeld.2.2.2.2.2.2.2.2.1 (fun h => h), fz4.cell hHeld.2.2.2.2.2.2.2.2.2.1 (fun h => h), hHeld.2.2.2.2.2.2.2.2.2.2.still fz4⟩ (fun hHeld => ?_)
      clear hK K fz4 HFz3
      refine wpAnyH_ready (rs := [8]) (by kernel_rfl) (by simp) ?_
      refine AllReadyH.cons (o := ⟨some 29, _, _, _, _, _⟩) rfl (fun K hK => ?_) AllReadyH.nil
      go_simp
      refine (Hhigh'.out _).mono ?_
      rintro e Vz5 ⟨rfl, fz5⟩
      have HFz5 := Lib.hid (HFz4.out.trans fz5)
      have hrm := hrm.still fz5
      refine hK.out _ _ ⟨fz5.cell hHeld.1 (fun h => h), fz5.cell hHeld.2.1 (fun h => h), fz5.cell hHeld.2.2.1 (fun h => h), fz5.cell hHeld.2.2.2.1 (fun h => h), fz5.cell hHeld.2.2.2.2.1 (fun h => h), fz5.cell hHeld.2.2.2.2.2.1 (fun h => h), fz5.cell hHeld.2.2.2.2.2.2.1 (fun h => h), fz5.cell hHeld.2.2.2.2.2.2.2.1 (fun h => h), fz5.cell hHeld.2.2.2.2.2.2.2.2.1 (fun h => h), fz5.cell hHeld.2.2.2.2.2.2.2.2.2.1 (fun h => h), hHeld.2.2.2.2.2.2.2.2.2.2.still fz5⟩ (fun hHeld => ?_)
      clear hK K fz5 HFz4
      refine wpAnyH_take (i := 9) (oi := ⟨some 30, _, _, _, _, _⟩) (v := (.int .i64 ((H : Int) + (H' : Int)))) rfl (by kernel_rfl) (by kernel_rfl) (by kernel_rfl) (fun _ _ _ h => h) (.inl ⟨by rfl, fun w hw => by dsimp only at hw; go_simp⟩) hHeld ?_
      simp only [Act.put, List.setIfInBounds_toArray, List.set_cons_zero, List.set_cons_succ]
      refine wpAnyH_take (i := 10) (oi := ⟨some 31, _, _, _, _, _⟩) (v := (.int .i64 (min ((H : Int) + (H' : Int) : Int) (200 : Int)))) rfl (by kernel_rfl) (by kernel_rfl) (by kernel_rfl) (fun _ _ _ h => h) (.inl ⟨by rfl, fun w hw => by dsimp only at hw; go_simp⟩) hHeld ?_
      simp only [Act.put, List.setIfInBounds_toArray, List.set_cons_zero, List.set_cons_succ]
      refine wpAnyH_ready (rs := [12]) (by kernel_rfl) (by simp) ?_
      refine AllReadyH.cons (o := ⟨some 33, _, _, _, _, _⟩) rfl (fun K hK => ?_) AllReadyH.nil
      go_simp
      refine (Hown.out _).mono ?_
      rintro e Vz6 ⟨rfl, fz6⟩
      have HFz6 := Lib.hid (HFz5.out.trans fz6)
      have hrm := hrm.still fz6
      refine hK.out _ _ ⟨fz6.cell hHeld.1 (fun h => h), fz6.cell hHeld.2.1 (fun h => h), fz6.cell hHeld.2.2.1 (fun h => h), fz6.cell hHeld.2.2.2.1 (fun h => h), fz6.cell hHeld.2.2.2.2.1 (fun h => h), fz6.cell hHeld.2.2.2.2.2.1 (fun h => h), fz6.cell hHeld.2.2.2.2.2.2.1 (fun h => h), fz6.cell hHeld.2.2.2.2.2.2.2.1 (fun h => h), fz6.cell hHeld.2.2.2.2.2.2.2.2.1 (fun h => h), fz6.cell hHeld.2.2.2.2.2.2.2.2.2.1 (fun h => h), hHeld.2.2.2.2.2.2.2.2.2.2.still fz6⟩ (fun hHeld => ?_)
      clear hK K fz6 HFz5
      refine wpAnyH_ready (rs := [14]) (by kernel_rfl) (by simp) ?_
      refine AllReadyH.cons (o := ⟨some 35, _, _, _, _, _⟩) rfl (fun K hK => ?_) AllReadyH.nil
      go_simp
      refine (Hown'.out _).mono ?_
      rintro e Vz7 ⟨rfl, fz7⟩
      have HFz7 := Lib.hid (HFz6.out.trans fz7)
      have hrm := hrm.still fz7
      refine hK.out _ _ ⟨fz7.cell hHeld.1 (fun h => h), fz7.cell hHeld.2.1 (fun h => h), fz7.cell hHeld.2.2.1 (fun h => h), fz7.cell hHeld.2.2.2.1 (fun h => h), fz7.cell hHeld.2.2.2.2.1 (fun h => h), fz7.cell hHeld.2.2.2.2.2.1 (fun h => h), fz7.cell hHeld.2.2.2.2.2.2.1 (fun h => h), fz7.cell hHeld.2.2.2.2.2.2.2.1 (fun h => h), fz7.cell hHeld.2.2.2.2.2.2.2.2.1 (fun h => h), fz7.cell hHeld.2.2.2.2.2.2.2.2.2.1 (fun h => h), hHeld.2.2.2.2.2.2.2.2.2.2.still fz7⟩ (fun hHeld => ?_)
      clear hK K fz7 HFz6
      refine wpAnyH_take (i := 15) (oi := ⟨some 36, _, _, _, _, _⟩) (v := (.int .i64 (bits .or .i64 (O : Int) (O' : Int)))) rfl (by kernel_rfl) (by kernel_rfl) (by kernel_rfl) (fun _ _ _ h => h) (.inl ⟨by rfl, fun w hw => by dsimp only at hw; go_simp⟩) hHeld ?_
      simp only [Act.put, List.setIfInBounds_toArray, List.set_cons_zero, List.set_cons_succ]
      refine wpAnyH_take (i := 20) (oi := ⟨some 41, _, _, _, _, _⟩) (v := (.agg #[.int .i64 ((L : Int) + (L' : Int)), .int .i64 (min ((H : Int) + (H' : Int) : Int) (200 : Int)), .int .i64 (bits .or .i64 (O : Int) (O' : Int)), .string (b), .string (d')])) rfl (by kernel_rfl) (by kernel_rfl) (by kernel_rfl) (fun _ _ _ h => h) (.inl ⟨by rfl, fun w hw => by dsimp only at hw; go_simp⟩) hHeld ?_
      simp only [Act.put, List.setIfInBounds_toArray, List.set_cons_zero, List.set_cons_succ]
      refine wpAnyH_ready (rs := [22]) (by kernel_rfl) (by simp) ?_
      refine AllReadyH.cons (o := ⟨none, _, _, _, _, _⟩) rfl (fun K hK => ?_) AllReadyH.nil
      have hrz8 := hrm
      obtain ⟨u0, u1, u2, u3, u4, ⟨c0, c1, c2, c3, c4⟩, z0, z1, z2, z3, z4⟩ := hrz8.facts
      go_simp
      clear c0 c1 c2 c3 c4 z0 z1 z2 z3 z4
      obtain ⟨Vz8, hVz8, hrowz8, hresz8, hcellz8, hheapz8⟩ := hrz8.put2 (.int .i64 ((L : Int) + (L' : Int))) (.int .i64 (min ((H : Int) + (H' : Int) : Int) (200 : Int))) (.int .i64 (bits .or .i64 (O : Int) (O' : Int))) (.string (b)) (.string (d'))
      rw [hVz8]
      clear hVz8 hrz8
      refine hK.out _ _ ⟨hcellz8 _ _ _ hnxm hHeld.1, hcellz8 _ _ _ hnxm hHeld.2.1, hcellz8 _ _ _ hnxm hHeld.2.2.1, hcellz8 _ _ _ hnxm hHeld.2.2.2.1, hcellz8 _ _ _ hnxm hHeld.2.2.2.2.1, hcellz8 _ _ _ hnym hHeld.2.2.2.2.2.1, hcellz8 _ _ _ hnym hHeld.2.2.2.2.2.2.1, hcellz8 _ _ _ hnym hHeld.2.2.2.2.2.2.2.1, hcellz8 _ _ _ hnym hHeld.2.2.2.2.2.2.2.2.1, hcellz8 _ _ _ hnym hHeld.2.2.2.2.2.2.2.2.2.1, (hHeld.2.2.2.2.2.2.2.2.2.2).move hresz8.frm (hheapz8 _ hngm)⟩ (fun hHeld => ?_)
      clear hK K hcellz8
      refine wpAnyH_done (by kernel_rfl) ?_ _
      obtain ⟨a0, a1, a2, a3, a4, b0, b1, b2, b3, b4, hres⟩ := hHeld
      go_wp2_with fail
      go_meet
      case rel => exact ⟨m, rfl, hrowz8, ⟨a0, a1, a2, a3, a4⟩, ⟨b0, b1, b2, b3, b4⟩, hres, hresz8, hnxm, hnym, hngm⟩
  case rest =>
    clear hres a0 a1 a2 a3 a4 b0 b1 b2 b3 b4
    obtain ⟨m, rfl, hrow, ⟨a0, a1, a2, a3, a4⟩, ⟨b0, b1, b2, b3, b4⟩, hres, hrm, hnxm, hnym, hngm⟩ := hcut
    clear HF Hemp Hemp' Hlow Hlow' Hhigh Hhigh' Hown Hown' w1 w2 q1
    go_wp2_with fail
    refine (Hfx.out _).mono ?_
    rintro e V3 ⟨rfl, f3⟩
    have a0 := f3.cell a0 (fun h => h)
    have a1 := f3.cell a1 (fun h => h)
    have a2 := f3.cell a2 (fun h => h)
    have a3 := f3.cell a3 (fun h => h)
    have a4 := f3.cell a4 (fun h => h)
    have b0 := f3.cell b0 (fun h => h)
    have b1 := f3.cell b1 (fun h => h)
    have b2 := f3.cell b2 (fun h => h)
    have b3 := f3.cell b3 (fun h => h)
    have b4 := f3.cell b4 (fun h => h)
    have hres := hres.still f3
    have hrm := hrm.still f3
    have hrow := f3.heap hrow (fun h => h)
    clear f3 Hfx
    obtain ⟨⟨k0, k1, k2, k3, k4⟩, z0, z1, z2, z3, z4⟩ := row_facts hrow
    have hcat : ¬ 9223372036854775807 < b.size + b'.size := by omega
    go_upto_region 6 with fail
    obtain ⟨W3, hW3, hrow, hfr, hcell, hheap⟩ := hrm.field hrow 3 (.string (b ++ b'))
    rw [hW3]
    clear hW3 k0 k1 k2 k3 k4 z0 z1 z2 z3 z4 hcat
    have b0 := hcell _ _ _ hnym b0
    have b1 := hcell _ _ _ hnym b1
    have b2 := hcell _ _ _ hnym b2
    have b3 := hcell _ _ _ hnym b3
    have b4 := hcell _ _ _ hnym b4
    have hres := hres.move hfr (hheap _ hngm)
    clear hfr hcell hheap a0 a1 a2 a3 a4 hrm hnxm hnym hngm hnxg hnyg
    go_wp2_with fail
    refine (Hfy.out _).mono ?_
    rintro e V4 ⟨rfl, f4⟩
    have hres := hres.still f4
    have hrow : _ = some (Obj.cells #[.int .i64 (L + L'), .int .i64 (min (H + H') 200), .int .i64 (bits .or .i64 O O'), .string (b ++ b'), .string d'] 24 (0, 0)) := f4.heap hrow (fun h => h)
    clear f4 b0 b1 b2 b3 b4
    obtain ⟨⟨k0, k1, k2, k3, k4⟩, -⟩ := row_facts hrow
    obtain ⟨u0, u1, u2, u3, u4, ⟨c0, c1, c2, c3, c4⟩, z0, z1, z2, z3, z4⟩ := hres.facts
    have Hr := Lib.hid hres
    clear hres
    go_wp2_with fail
    exact Hr.out.ret Tryz.results18 rfl rfl fun W f => ⟨rfl, f⟩
end Go.Proofs.YtgnjakaamgeibaaGreatDoor
