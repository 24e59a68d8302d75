/-
  Layout of the reference, and Mod: what their code does. Conditions: none.
-/
import Derived.Test.YtmpfgdpicbpedaaDoorRRight
namespace Go.Proofs.YtmpfgdpicbpedaaDoor
open Go.RowKit Go.Shelf
attribute [local go_sem] Oper.semAt_some

theorem ck_alloc {w : World} {a : Addr} {v : Value} (o : Obj) (h : w.cell? a = some v) : (w.alloc o).cell? a = some v := by
  have hb : a.block < w.heap.size := World.block_lt_of_cell? w _ h
  exact (World.cell?_of_block (w := w) (a := a) (Below.heap_alloc w o a.block hb)).trans h
theorem ck_drew {w : World} {a : Addr} {v : Value} (h : w.cell? a = some v) : w.drew.cell? a = some v := h
theorem wpAnyH_more {P : Program} {md : Region.Mode} {ops : Array Oper} {Q : Exit → Act → World → Prop} {S S2 : World → Prop} (h : ∀ w, S2 w → S w) : ∀ (fuel : Nat) (listed : Array Bool) (a : Act) (w : World), wpAnyH P md ops Q S2 fuel listed a w → wpAnyH P md ops Q S fuel listed a w
  | 0, _, _, _, hx => hx
  | fuel + 1, _, _, _, hx => ⟨hx.1, fun i hi => wpOp_mono (fun a' w' h' => ⟨h _ h'.1, wpAnyH_more h fuel _ a' w' h'.2⟩) (hx.2 i hi)⟩
theorem cell_at {w : World} {x : Nat} {cs : Array Value} {t : TypeId} (h : w.heap[x]? = some (.cells cs t (0, 0))) (i : Nat) {v : Value} (hv : cs[i]? = some v) : w.cell? ⟨x, i, none⟩ = some v := by
  rw [cell_of_row w x i _ _ _ h]
  exact hv
def ordL (k : Nat) : Nat × Nat × Nat := [(0, 1, 2), (0, 2, 1), (1, 0, 2), (1, 2, 0), (2, 0, 1), (2, 1, 0)].getD k (0, 0, 0)
def sepL (k : Nat) : List UInt8 := [[45], [46], [47], [32], [44, 32], [120], [32, 111, 102, 32], []].getD k []
theorem pick3 (M D : ByteArray) (o : Nat) (ho : o < 3) (hM : M.size ≤ 4) (hD : D.size ≤ 4) : ∃ G : ByteArray, G.size ≤ 4 ∧ G.data.toList = [fY, M.data.toList, D.data.toList].getD o [] ∧ ∀ (W : World) (C : Nat) (t : TypeId), W.heap[C]? = some (.cells #[.string ⟨#[89, 89, 89, 89]⟩, .string M, .string D] t (0, 0)) → W.cell? ⟨C, o, none⟩ = some (.string G) := by
  have : o = 0 ∨ o = 1 ∨ o = 2 := by omega
  rcases this with rfl | rfl | rfl
  · exact ⟨⟨#[89, 89, 89, 89]⟩, by decide, rfl, fun W C t h => cell_at h 0 rfl⟩
  · exact ⟨M, hM, rfl, fun W C t h => cell_at h 1 rfl⟩
  · exact ⟨D, hD, rfl, fun W C t h => cell_at h 2 rfl⟩
def layT (M D : List UInt8) (o : Nat × Nat × Nat) (s : List UInt8) : List UInt8 := [fY, M, D].getD o.1 [] ++ s ++ [fY, M, D].getD o.2.1 [] ++ s ++ [fY, M, D].getD o.2.2 []
theorem lay_right : ∀ k, k < 6 → ∀ m, m < 8 → ∀ M ∈ [fMM, fM], ∀ D ∈ [fDD, fD], rightB (layT M D (ordL k) (if sepL m = [] then [95] else sepL m)) = true := by
  have key : ∀ k : Fin 6, ∀ m : Fin 8, ∀ M ∈ [fMM, fM], ∀ D ∈ [fDD, fD], rightB (layT M D (ordL k.1) (if sepL m.1 = [] then [95] else sepL m.1)) = true := by decide +kernel
  exact fun k hk m hm => key ⟨k, hk⟩ ⟨m, hm⟩
theorem pick2 (r : Int) (hr : r = 0 ∨ r = 1) (X Y : ByteArray) : ∃ (j : Nat) (M : ByteArray), r = j ∧ j < 2 ∧ (M = X ∨ M = Y) ∧ ∀ (W : World) (C : Nat) (t : TypeId), W.heap[C]? = some (.cells #[.string X, .string Y] t (0, 0)) → W.cell? ⟨C, j, none⟩ = some (.string M) := by
  rcases hr with rfl | rfl
  · exact ⟨0, X, rfl, by omega, .inl rfl, fun W C t h => cell_at h 0 rfl⟩
  · exact ⟨1, Y, rfl, by omega, .inr rfl, fun W C t h => cell_at h 1 rfl⟩

set_option maxRecDepth 100000 in
set_option maxHeartbeats 8000000 in
theorem lay_any (x0 x1 x2 : Int) (b : Bool) (w : World) (n0 : -9223372036854775808 ≤ x0 ∧ x0 ≤ 9223372036854775807) (n1 : -9223372036854775808 ≤ x1 ∧ x1 ≤ 9223372036854775807) (n2 : -9223372036854775808 ≤ x2 ∧ x2 ≤ 9223372036854775807) : Calls Tryd.prog 21 #[.agg #[.int .i64 x0, .int .i64 x1, .int .i64 x2], .bool b] w fun e w' => (∃ X : ByteArray, e = .returned (.string X) ∧ X.size ≤ 100 ∧ (b = false → rightB X.data.toList = true)) ∧ Frm (fun _ => False) w w' := by
  go_enter Tryd.func21, Tryd.ntmps21
  go_upto_region 1 with fail
  have h0 := (Own.start w).box #[.int .i64 x0, .int .i64 x1, .int .i64 x2] 22
  obtain ⟨W0, hW0⟩ : ∃ W, W = w.alloc (.cells #[.int .i64 x0, .int .i64 x1, .int .i64 x2] 22) := ⟨_, rfl⟩
  obtain ⟨A, hA⟩ : ∃ b, b = w.heap.size := ⟨_, rfl⟩
  rw [← hW0, ← hA] at h0 ⊢
  clear hW0 hA
  go_cut [5] (fun s wx => ∃ (F : Nat) (M D : ByteArray), s = .slice (some ⟨F, 0, none⟩) 3 3 ∧ Own w [cellT A #[.int .i64 x0, .int .i64 x1, .int .i64 x2] 22, cellT F #[.string ⟨#[89, 89, 89, 89]⟩, .string M, .string D] 9] wx ∧ Hid (M = ⟨#[77, 77]⟩ ∨ M = ⟨#[77]⟩) ∧ Hid (D = ⟨#[68, 68]⟩ ∨ D = ⟨#[68]⟩))
  case first =>
    have t1 : x0.tdiv 2 = if 0 ≤ x0 then x0 / 2 else -((-x0) / 2) := by
      split
      · exact Int.tdiv_eq_ediv_of_nonneg (by omega)
      · rw [← Int.tdiv_eq_ediv_of_nonneg (show 0 ≤ -x0 by omega), Int.neg_tdiv, Int.neg_neg]
    have t2 : -9223372036854775808 ≤ x0.tdiv 2 ∧ x0.tdiv 2 ≤ 9223372036854775807 := by rw [t1]; split <;> omega
    have m1 := fun w => mod_any x0 2 w (by omega) (by omega) n0.1 n0.2
    have m2 := fun w => mod_any (x0.tdiv 2) 2 w (by omega) (by omega) t2.1 t2.2
    obtain ⟨j1, M, e1, l1, hM, HM⟩ := pick2 (x0 % 2) (by omega) ⟨#[77, 77]⟩ ⟨#[77]⟩
    obtain ⟨j2, D, e2, l2, hD, HD⟩ := pick2 (x0.tdiv 2 % 2) (by omega) ⟨#[68, 68]⟩ ⟨#[68]⟩
    rw [e1] at m1
    rw [e2] at m2
    have M1 := Lib.hid m1
    have M2 := Lib.hid m2
    have HM := Lib.hid HM
    have HD := Lib.hid HD
    have hM := Lib.hid hM
    have hD := Lib.hid hD
    have wq : IntKind.i64.wrap (x0.tdiv 2) = x0.tdiv 2 := IntWalk.i64_in _ t2
    have nj1 : ¬ (2 : Int) ≤ (j1 : Int) := by omega
    have nj2 : ¬ (2 : Int) ≤ (j2 : Int) := by omega
    clear m1 m2 e1 e2 t1 t2
    refine wp_region_held_drew (S := fun w' => w'.cell? ⟨A, 0, none⟩ = some (.int .i64 x0)) (by kernel_rfl) (cell_at (h0.obj (x := A) (cs := #[.int .i64 x0, .int .i64 x1, .int .i64 x2]) (t := 22) 0 rfl) 0 rfl) (fun hHeld => ?_)
    obtain ⟨V0, hV0⟩ : ∃ w', w' = W0.drew := ⟨_, rfl⟩
    have hw0 := h0.drew
    rw [← hV0] at hw0 hHeld ⊢
    clear hV0 h0
    refine wpAnyH_take (i := 1) (oi := ⟨some 11, _, _, _, _, _⟩) (v := (.pointer (some ⟨A, 0, none⟩))) rfl (by kernel_rfl) (by kernel_rfl) (by kernel_rfl) (fun _ _ _ h => h) (.inl ⟨by rfl, fun w hw => by dsimp only at hw; go_simp⟩) hHeld ?_
    simp only [Act.put, List.setIfInBounds_toArray, List.set_cons_zero, List.set_cons_succ]
    refine wpAnyH_take (i := 2) (oi := ⟨some 12, _, _, _, _, _⟩) (v := (.int .i64 x0)) rfl (by kernel_rfl) (by kernel_rfl) (by kernel_rfl) (fun _ _ _ h => h) (.inl ⟨by rfl, fun w hw => by dsimp only at hw; go_simp⟩) hHeld ?_
    simp only [Act.put, List.setIfInBounds_toArray, List.set_cons_zero, List.set_cons_succ]
    refine wpAnyH_take (i := 7) (oi := ⟨some 17, _, _, _, _, _⟩) (v := (.pointer (some ⟨A, 0, none⟩))) rfl (by kernel_rfl) (by kernel_rfl) (by kernel_rfl) (fun _ _ _ h => h) (.inl ⟨by rfl, fun w hw => by dsimp only at hw; go_simp⟩) hHeld ?_
    simp only [Act.put, List.setIfInBounds_toArray, List.set_cons_zero, List.set_cons_succ]
    refine wpAnyH_take (i := 8) (oi := ⟨some 18, _, _, _, _, _⟩) (v := (.int .i64 x0)) rfl (by kernel_rfl) (by kernel_rfl) (by kernel_rfl) (fun _ _ _ h => h) (.inl ⟨by rfl, fun w hw => by dsimp only at hw; go_simp⟩) hHeld ?_
    simp only [Act.put, List.setIfInBounds_toArray, List.set_cons_zero, List.set_cons_succ]
    refine wpAnyH_take (i := 9) (oi := ⟨some 19, _, _, _, _, _⟩) (v := (.int .i64 (x0.tdiv 2))) rfl (by kernel_rfl) (by kernel_rfl) (by kernel_rfl) (fun _ _ _ h => h) (.inl ⟨by rfl, fun w hw => by dsimp only at hw; go_simp⟩) hHeld ?_
    simp only [Act.put, List.setIfInBounds_toArray, List.set_cons_zero, List.set_cons_succ]
    refine wpAnyH_ready (rs := [0, 3, 6]) (by kernel_rfl) (by simp) ?_
    refine AllReadyH.cons (o := ⟨some 10, _, _, _, _, _⟩) rfl (fun K hK => ?_) (AllReadyH.cons (o := ⟨some 13, _, _, _, _, _⟩) rfl (fun K hK => ?_) (AllReadyH.cons (o := ⟨some 16, _, _, _, _, _⟩) rfl (fun K hK => ?_) AllReadyH.nil))
    · go_simp
      have hw1 := hw0.box #[.string ⟨#[77, 77]⟩, .string ⟨#[77]⟩] 9
      obtain ⟨V1, hW⟩ : ∃ W, W = V0.alloc (.cells #[.string ⟨#[77, 77]⟩, .string ⟨#[77]⟩] 9) := ⟨_, rfl⟩
      obtain ⟨bM, hB⟩ : ∃ b, b = V0.heap.size := ⟨_, rfl⟩
      rw [← hW, ← hB] at hw1 ⊢
      clear hW hB
      refine hK.out _ _ (by exact cell_at (hw1.obj (x := A) (cs := #[.int .i64 x0, .int .i64 x1, .int .i64 x2]) (t := 22) 0 rfl) 0 rfl) (fun hHeld => ?_)
      clear hK K
      refine wpAnyH_more (S2 := fun w' => (w'.cell? ⟨A, 0, none⟩ = some (.int .i64 x0)) ∧ w'.cell? ⟨bM, j1, none⟩ = some (.string M)) (fun _ h => h.1) _ _ _ _ ?_
      have hHeld2 : (V1.cell? ⟨A, 0, none⟩ = some (.int .i64 x0)) ∧ V1.cell? ⟨bM, j1, none⟩ = some (.string M) := ⟨hHeld, (have HM := HM; HM.out _ _ _ (hw1.obj (x := bM) (cs := #[.string ⟨#[77, 77]⟩, .string ⟨#[77]⟩]) (t := 9) 1 rfl))⟩
      clear hHeld
      have hHeld := hHeld2
      clear hHeld2
      refine wpAnyH_ready (rs := [3, 6]) (by kernel_rfl) (by simp) ?_
      refine AllReadyH.cons (o := ⟨some 13, _, _, _, _, _⟩) rfl (fun K hK => ?_) (AllReadyH.cons (o := ⟨some 16, _, _, _, _, _⟩) rfl (fun K hK => ?_) AllReadyH.nil)
      · go_simp
        refine (M1.out _).mono ?_
        rintro e w9 ⟨rfl, rfl⟩
        refine hK.out _ _ hHeld (fun hHeld => ?_)
        clear hK K
        refine wpAnyH_take (i := 4) (oi := ⟨some 14, _, _, _, _, _⟩) (v := (.pointer (some ⟨bM, j1, none⟩))) rfl (by kernel_rfl) (by kernel_rfl) (by kernel_rfl) (fun _ _ _ h => h) (.inl ⟨by rfl, fun w hw => by dsimp only at hw; go_simp⟩) hHeld ?_
        simp only [Act.put, List.setIfInBounds_toArray, List.set_cons_zero, List.set_cons_succ]
        refine wpAnyH_take (i := 5) (oi := ⟨some 15, _, _, _, _, _⟩) (v := (.string M)) rfl (by kernel_rfl) (by kernel_rfl) (by kernel_rfl) (fun _ _ _ h => h) (.inl ⟨by rfl, fun w hw => by dsimp only at hw; go_simp⟩) hHeld ?_
        simp only [Act.put, List.setIfInBounds_toArray, List.set_cons_zero, List.set_cons_succ]
        refine wpAnyH_ready (rs := [6, 10]) (by kernel_rfl) (by simp) ?_
        refine AllReadyH.cons (o := ⟨some 16, _, _, _, _, _⟩) rfl (fun K hK => ?_) (AllReadyH.cons (o := ⟨some 20, _, _, _, _, _⟩) rfl (fun K hK => ?_) AllReadyH.nil)
        · go_simp
          have hw2 := hw1.box #[.string ⟨#[68, 68]⟩, .string ⟨#[68]⟩] 9
          obtain ⟨V2, hW⟩ : ∃ W, W = V1.alloc (.cells #[.string ⟨#[68, 68]⟩, .string ⟨#[68]⟩] 9) := ⟨_, rfl⟩
          obtain ⟨bD, hB⟩ : ∃ b, b = V1.heap.size := ⟨_, rfl⟩
          rw [← hW, ← hB] at hw2 ⊢
          clear hW hB
          refine hK.out _ _ (by exact ⟨cell_at (hw2.obj (x := A) (cs := #[.int .i64 x0, .int .i64 x1, .int .i64 x2]) (t := 22) 0 rfl) 0 rfl, (have HM := HM; HM.out _ _ _ (hw2.obj (x := bM) (cs := #[.string ⟨#[77, 77]⟩, .string ⟨#[77]⟩]) (t := 9) 1 rfl))⟩) (fun hHeld => ?_)
          clear hK K
          refine wpAnyH_more (S2 := fun w' => ((w'.cell? ⟨A, 0, none⟩ = some (.int .i64 x0)) ∧ w'.cell? ⟨bM, j1, none⟩ = some (.string M)) ∧ w'.cell? ⟨bD, j2, none⟩ = some (.string D)) (fun _ h => h.1) _ _ _ _ ?_
          have hHeld2 : ((V2.cell? ⟨A, 0, none⟩ = some (.int .i64 x0)) ∧ V2.cell? ⟨bM, j1, none⟩ = some (.string M)) ∧ V2.cell? ⟨bD, j2, none⟩ = some (.string D) := ⟨hHeld, (have HD := HD; HD.out _ _ _ (hw2.obj (x := bD) (cs := #[.string ⟨#[68, 68]⟩, .string ⟨#[68]⟩]) (t := 9) 2 rfl))⟩
          clear hHeld
          have hHeld := hHeld2
          clear hHeld2
          refine wpAnyH_ready (rs := [10]) (by kernel_rfl) (by simp) ?_
          refine AllReadyH.cons (o := ⟨some 20, _, _, _, _, _⟩) rfl (fun K hK => ?_) AllReadyH.nil
          go_simp
          refine (M2.out _).mono ?_
          rintro e w9 ⟨rfl, rfl⟩
          refine hK.out _ _ hHeld (fun hHeld => ?_)
          clear hK K
          refine wpAnyH_take (i := 11) (oi := ⟨some 21, _, _, _, _, _⟩) (v := (.pointer (some ⟨bD, j2, none⟩))) rfl (by kernel_rfl) (by kernel_rfl) (by kernel_rfl) (fun _ _ _ h => h) (.inl ⟨by rfl, fun w hw => by dsimp only at hw; go_simp⟩) hHeld ?_
          simp only [Act.put, List.setIfInBounds_toArray, List.set_cons_zero, List.set_cons_succ]
          refine wpAnyH_take (i := 12) (oi := ⟨some 22, _, _, _, _, _⟩) (v := (.string D)) rfl (by kernel_rfl) (by kernel_rfl) (by kernel_rfl) (fun _ _ _ h => h) (.inl ⟨by rfl, fun w hw => by dsimp only at hw; go_simp⟩) hHeld ?_
          simp only [Act.put, List.setIfInBounds_toArray, List.set_cons_zero, List.set_cons_succ]
          refine wpAnyH_ready (rs := [13]) (by kernel_rfl) (by simp) ?_
          refine AllReadyH.cons (o := ⟨some 23, _, _, _, _, _⟩) rfl (fun K hK => ?_) AllReadyH.nil
          go_simp
          have hw3 := hw2.box #[.string ⟨#[89, 89, 89, 89]⟩, .string M, .string D] 9
          obtain ⟨V3, hW⟩ : ∃ W, W = V2.alloc (.cells #[.string ⟨#[89, 89, 89, 89]⟩, .string M, .string D] 9) := ⟨_, rfl⟩
          obtain ⟨bF, hB⟩ : ∃ b, b = V2.heap.size := ⟨_, rfl⟩
          rw [← hW, ← hB] at hw3 ⊢
          clear hW hB
          refine hK.out _ _ (by exact ⟨⟨cell_at (hw3.obj (x := A) (cs := #[.int .i64 x0, .int .i64 x1, .int .i64 x2]) (t := 22) 0 rfl) 0 rfl, (have HM := HM; HM.out _ _ _ (hw3.obj (x := bM) (cs := #[.string ⟨#[77, 77]⟩, .string ⟨#[77]⟩]) (t := 9) 1 rfl))⟩, (have HD := HD; HD.out _ _ _ (hw3.obj (x := bD) (cs := #[.string ⟨#[68, 68]⟩, .string ⟨#[68]⟩]) (t := 9) 2 rfl))⟩) (fun hHeld => ?_)
          clear hK K
          refine wpAnyH_take (i := 14) (oi := ⟨some 5, _, _, _, _, _⟩) (v := (.slice (some ⟨bF, 0, none⟩) 3 3)) rfl (by kernel_rfl) (by kernel_rfl) (by kernel_rfl) (fun _ _ _ h => h) (.inl ⟨by rfl, fun w hw => by dsimp only at hw; go_simp⟩) hHeld ?_
          simp only [Act.put, List.setIfInBounds_toArray, List.set_cons_zero, List.set_cons_succ]
          refine wpAnyH_done (by kernel_rfl) ?_ _
          go_wp2_with fail
          go_meet
          refine ⟨bF, M, D, rfl, ?_, hM, hD⟩
          exact hw3.reidx (fun j => if j = 0 then 0 else 3) (fun j U hj => by match j, hj with | 0, hj => simpa using hj | 1, hj => simpa using hj) (fun i j hi hj e => by simp at hi hj; split at e <;> split at e <;> omega)
        · go_simp
          refine (M2.out _).mono ?_
          rintro e w9 ⟨rfl, rfl⟩
          refine hK.out _ _ hHeld (fun hHeld => ?_)
          clear hK K
          refine wpAnyH_ready (rs := [6]) (by kernel_rfl) (by simp) ?_
          refine AllReadyH.cons (o := ⟨some 16, _, _, _, _, _⟩) rfl (fun K hK => ?_) AllReadyH.nil
          go_simp
          have hw2 := hw1.box #[.string ⟨#[68, 68]⟩, .string ⟨#[68]⟩] 9
          obtain ⟨V2, hW⟩ : ∃ W, W = V1.alloc (.cells #[.string ⟨#[68, 68]⟩, .string ⟨#[68]⟩] 9) := ⟨_, rfl⟩
          obtain ⟨bD, hB⟩ : ∃ b, b = V1.heap.size := ⟨_, rfl⟩
          rw [← hW, ← hB] at hw2 ⊢
          clear hW hB
          refine hK.out _ _ (by exact ⟨cell_at (hw2.obj (x := A) (cs := #[.int .i64 x0, .int .i64 x1, .int .i64 x2]) (t := 22) 0 rfl) 0 rfl, (have HM := HM; HM.out _ _ _ (hw2.obj (x := bM) (cs := #[.string ⟨#[77, 77]⟩, .string ⟨#[77]⟩]) (t := 9) 1 rfl))⟩) (fun hHeld => ?_)
          clear hK K
          refine wpAnyH_more (S2 := fun w' => ((w'.cell? ⟨A, 0, none⟩ = some (.int .i64 x0)) ∧ w'.cell? ⟨bM, j1, none⟩ = some (.string M)) ∧ w'.cell? ⟨bD, j2, none⟩ = some (.string D)) (fun _ h => h.1) _ _ _ _ ?_
          have hHeld2 : ((V2.cell? ⟨A, 0, none⟩ = some (.int .i64 x0)) ∧ V2.cell? ⟨bM, j1, none⟩ = some (.string M)) ∧ V2.cell? ⟨bD, j2, none⟩ = some (.string D) := ⟨hHeld, (have HD := HD; HD.out _ _ _ (hw2.obj (x := bD) (cs := #[.string ⟨#[68, 68]⟩, .string ⟨#[68]⟩]) (t := 9) 2 rfl))⟩
          clear hHeld
          have hHeld := hHeld2
          clear hHeld2
          refine wpAnyH_take (i := 11) (oi := ⟨some 21, _, _, _, _, _⟩) (v := (.pointer (some ⟨bD, j2, none⟩))) rfl (by kernel_rfl) (by kernel_rfl) (by kernel_rfl) (fun _ _ _ h => h) (.inl ⟨by rfl, fun w hw => by dsimp only at hw; go_simp⟩) hHeld ?_
          simp only [Act.put, List.setIfInBounds_toArray, List.set_cons_zero, List.set_cons_succ]
          refine wpAnyH_take (i := 12) (oi := ⟨some 22, _, _, _, _, _⟩) (v := (.string D)) rfl (by kernel_rfl) (by kernel_rfl) (by kernel_rfl) (fun _ _ _ h => h) (.inl ⟨by rfl, fun w hw => by dsimp only at hw; go_simp⟩) hHeld ?_
          simp only [Act.put, List.setIfInBounds_toArray, List.set_cons_zero, List.set_cons_succ]
          refine wpAnyH_ready (rs := [13]) (by kernel_rfl) (by simp) ?_
          refine AllReadyH.cons (o := ⟨some 23, _, _, _, _, _⟩) rfl (fun K hK => ?_) AllReadyH.nil
          go_simp
          have hw3 := hw2.box #[.string ⟨#[89, 89, 89, 89]⟩, .string M, .string D] 9
          obtain ⟨V3, hW⟩ : ∃ W, W = V2.alloc (.cells #[.string ⟨#[89, 89, 89, 89]⟩, .string M, .string D] 9) := ⟨_, rfl⟩
          obtain ⟨bF, hB⟩ : ∃ b, b = V2.heap.size := ⟨_, rfl⟩
          rw [← hW, ← hB] at hw3 ⊢
          clear hW hB
          refine hK.out _ _ (by exact ⟨⟨cell_at (hw3.obj (x := A) (cs := #[.int .i64 x0, .int .i64 x1, .int .i64 x2]) (t := 22) 0 rfl) 0 rfl, (have HM := HM; HM.out _ _ _ (hw3.obj (x := bM) (cs := #[.string ⟨#[77, 77]⟩, .string ⟨#[77]⟩]) (t := 9) 1 rfl))⟩, (have HD := HD; HD.out _ _ _ (hw3.obj (x := bD) (cs := #[.string ⟨#[68, 68]⟩, .string ⟨#[68]⟩]) (t := 9) 2 rfl))⟩) (fun hHeld => ?_)
          clear hK K
          refine wpAnyH_take (i := 14) (oi := ⟨some 5, _, _, _, _, _⟩) (v := (.slice (some ⟨bF, 0, none⟩) 3 3)) rfl (by kernel_rfl) (by kernel_rfl) (by kernel_rfl) (fun _ _ _ h => h) (.inl ⟨by rfl, fun w hw => by dsimp only at hw; go_simp⟩) hHeld ?_
          simp only [Act.put, List.setIfInBounds_toArray, List.set_cons_zero, List.set_cons_succ]
          refine wpAnyH_done (by kernel_rfl) ?_ _
          go_wp2_with fail
          go_meet
          refine ⟨bF, M, D, rfl, ?_, hM, hD⟩
          exact hw3.reidx (fun j => if j = 0 then 0 else 3) (fun j U hj => by match j, hj with | 0, hj => simpa using hj | 1, hj => simpa using hj) (fun i j hi hj e => by simp at hi hj; split at e <;> split at e <;> omega)
      · go_simp
        have hw2 := hw1.box #[.string ⟨#[68, 68]⟩, .string ⟨#[68]⟩] 9
        obtain ⟨V2, hW⟩ : ∃ W, W = V1.alloc (.cells #[.string ⟨#[68, 68]⟩, .string ⟨#[68]⟩] 9) := ⟨_, rfl⟩
        obtain ⟨bD, hB⟩ : ∃ b, b = V1.heap.size := ⟨_, rfl⟩
        rw [← hW, ← hB] at hw2 ⊢
        clear hW hB
        refine hK.out _ _ (by exact ⟨cell_at (hw2.obj (x := A) (cs := #[.int .i64 x0, .int .i64 x1, .int .i64 x2]) (t := 22) 0 rfl) 0 rfl, (have HM := HM; HM.out _ _ _ (hw2.obj (x := bM) (cs := #[.string ⟨#[77, 77]⟩, .string ⟨#[77]⟩]) (t := 9) 1 rfl))⟩) (fun hHeld => ?_)
        clear hK K
        refine wpAnyH_more (S2 := fun w' => ((w'.cell? ⟨A, 0, none⟩ = some (.int .i64 x0)) ∧ w'.cell? ⟨bM, j1, none⟩ = some (.string M)) ∧ w'.cell? ⟨bD, j2, none⟩ = some (.string D)) (fun _ h => h.1) _ _ _ _ ?_
        have hHeld2 : ((V2.cell? ⟨A, 0, none⟩ = some (.int .i64 x0)) ∧ V2.cell? ⟨bM, j1, none⟩ = some (.string M)) ∧ V2.cell? ⟨bD, j2, none⟩ = some (.string D) := ⟨hHeld, (have HD := HD; HD.out _ _ _ (hw2.obj (x := bD) (cs := #[.string ⟨#[68, 68]⟩, .string ⟨#[68]⟩]) (t := 9) 2 rfl))⟩
        clear hHeld
        have hHeld := hHeld2
        clear hHeld2
        refine wpAnyH_ready (rs := [3]) (by kernel_rfl) (by simp) ?_
        refine AllReadyH.cons (o := ⟨some 13, _, _, _, _, _⟩) rfl (fun K hK => ?_) AllReadyH.nil
        go_simp
        refine (M1.out _).mono ?_
        rintro e w9 ⟨rfl, rfl⟩
        refine hK.out _ _ hHeld (fun hHeld => ?_)
        clear hK K
        refine wpAnyH_take (i := 4) (oi := ⟨some 14, _, _, _, _, _⟩) (v := (.pointer (some ⟨bM, j1, none⟩))) rfl (by kernel_rfl) (by kernel_rfl) (by kernel_rfl) (fun _ _ _ h => h) (.inl ⟨by rfl, fun w hw => by dsimp only at hw; go_simp⟩) hHeld ?_
        simp only [Act.put, List.setIfInBounds_toArray, List.set_cons_zero, List.set_cons_succ]
        refine wpAnyH_take (i := 5) (oi := ⟨some 15, _, _, _, _, _⟩) (v := (.string M)) rfl (by kernel_rfl) (by kernel_rfl) (by kernel_rfl) (fun _ _ _ h => h) (.inl ⟨by rfl, fun w hw => by dsimp only at hw; go_simp⟩) hHeld ?_
        simp only [Act.put, List.setIfInBounds_toArray, List.set_cons_zero, List.set_cons_succ]
        refine wpAnyH_ready (rs := [10]) (by kernel_rfl) (by simp) ?_
        refine AllReadyH.cons (o := ⟨some 20, _, _, _, _, _⟩) rfl (fun K hK => ?_) AllReadyH.nil
        go_simp
        refine (M2.out _).mono ?_
        rintro e w9 ⟨rfl, rfl⟩
        refine hK.out _ _ hHeld (fun hHeld => ?_)
        clear hK K
        refine wpAnyH_take (i := 11) (oi := ⟨some 21, _, _, _, _, _⟩) (v := (.pointer (some ⟨bD, j2, none⟩))) rfl (by kernel_rfl) (by kernel_rfl) (by kernel_rfl) (fun _ _ _ h => h) (.inl ⟨by rfl, fun w hw => by dsimp only at hw; go_simp⟩) hHeld ?_
        simp only [Act.put, List.setIfInBounds_toArray, List.set_cons_zero, List.set_cons_succ]
        refine wpAnyH_take (i := 12) (oi := ⟨some 22, _, _, _, _, _⟩) (v := (.string D)) rfl (by kernel_rfl) (by kernel_rfl) (by kernel_rfl) (fun _ _ _ h => h) (.inl ⟨by rfl, fun w hw => by dsimp only at hw; go_simp⟩) hHeld ?_
        simp only [Act.put, List.setIfInBounds_toArray, List.set_cons_zero, List.set_cons_succ]
        refine wpAnyH_ready (rs := [13]) (by kernel_rfl) (by simp) ?_
        refine AllReadyH.cons (o := ⟨some 23, _, _, _, _, _⟩) rfl (fun K hK => ?_) AllReadyH.nil
        go_simp
        have hw3 := hw2.box #[.string ⟨#[89, 89, 89, 89]⟩, .string M, .string D] 9
        obtain ⟨V3, hW⟩ : ∃ W, W = V2.alloc (.cells #[.string ⟨#[89, 89, 89, 89]⟩, .string M, .string D] 9) := ⟨_, rfl⟩
        obtain ⟨bF, hB⟩ : ∃ b, b = V2.heap.size := ⟨_, rfl⟩
        rw [← hW, ← hB] at hw3 ⊢
        clear hW hB
        refine hK.out _ _ (by exact ⟨⟨cell_at (hw3.obj (x := A) (cs := #[.int .i64 x0, .int .i64 x1, .int .i64 x2]) (t := 22) 0 rfl) 0 rfl, (have HM := HM; HM.out _ _ _ (hw3.obj (x := bM) (cs := #[.string ⟨#[77, 77]⟩, .string ⟨#[77]⟩]) (t := 9) 1 rfl))⟩, (have HD := HD; HD.out _ _ _ (hw3.obj (x := bD) (cs := #[.string ⟨#[68, 68]⟩, .string ⟨#[68]⟩]) (t := 9) 2 rfl))⟩) (fun hHeld => ?_)
        clear hK K
        refine wpAnyH_take (i := 14) (oi := ⟨some 5, _, _, _, _, _⟩) (v := (.slice (some ⟨bF, 0, none⟩) 3 3)) rfl (by kernel_rfl) (by kernel_rfl) (by kernel_rfl) (fun _ _ _ h => h) (.inl ⟨by rfl, fun w hw => by dsimp only at hw; go_simp⟩) hHeld ?_
        simp only [Act.put, List.setIfInBounds_toArray, List.set_cons_zero, List.set_cons_succ]
        refine wpAnyH_done (by kernel_rfl) ?_ _
        go_wp2_with fail
        go_meet
        refine ⟨bF, M, D, rfl, ?_, hM, hD⟩
        exact hw3.reidx (fun j => if j = 0 then 0 else 3) (fun j U hj => by match j, hj with | 0, hj => simpa using hj | 1, hj => simpa using hj) (fun i j hi hj e => by simp at hi hj; split at e <;> split at e <;> omega)
    · go_simp
      refine (M1.out _).mono ?_
      rintro e w9 ⟨rfl, rfl⟩
      refine hK.out _ _ hHeld (fun hHeld => ?_)
      clear hK K
      refine wpAnyH_ready (rs := [0, 6, 10]) (by kernel_rfl) (by simp) ?_
      refine AllReadyH.cons (o := ⟨some 10, _, _, _, _, _⟩) rfl (fun K hK => ?_) (AllReadyH.cons (o := ⟨some 16, _, _, _, _, _⟩) rfl (fun K hK => ?_) (AllReadyH.cons (o := ⟨some 20, _, _, _, _, _⟩) rfl (fun K hK => ?_) AllReadyH.nil))
      · go_simp
        have hw1 := hw0.box #[.string ⟨#[77, 77]⟩, .string ⟨#[77]⟩] 9
        obtain ⟨V1, hW⟩ : ∃ W, W = V0.alloc (.cells #[.string ⟨#[77, 77]⟩, .string ⟨#[77]⟩] 9) := ⟨_, rfl⟩
        obtain ⟨bM, hB⟩ : ∃ b, b = V0.heap.size := ⟨_, rfl⟩
        rw [← hW, ← hB] at hw1 ⊢
        clear hW hB
        refine hK.out _ _ (by exact cell_at (hw1.obj (x := A) (cs := #[.int .i64 x0, .int .i64 x1, .int .i64 x2]) (t := 22) 0 rfl) 0 rfl) (fun hHeld => ?_)
        clear hK K
        refine wpAnyH_more (S2 := fun w' => (w'.cell? ⟨A, 0, none⟩ = some (.int .i64 x0)) ∧ w'.cell? ⟨bM, j1, none⟩ = some (.string M)) (fun _ h => h.1) _ _ _ _ ?_
        have hHeld2 : (V1.cell? ⟨A, 0, none⟩ = some (.int .i64 x0)) ∧ V1.cell? ⟨bM, j1, none⟩ = some (.string M) := ⟨hHeld, (have HM := HM; HM.out _ _ _ (hw1.obj (x := bM) (cs := #[.string ⟨#[77, 77]⟩, .string ⟨#[77]⟩]) (t := 9) 1 rfl))⟩
        clear hHeld
        have hHeld := hHeld2
        clear hHeld2
        refine wpAnyH_take (i := 4) (oi := ⟨some 14, _, _, _, _, _⟩) (v := (.pointer (some ⟨bM, j1, none⟩))) rfl (by kernel_rfl) (by kernel_rfl) (by kernel_rfl) (fun _ _ _ h => h) (.inl ⟨by rfl, fun w hw => by dsimp only at hw; go_simp⟩) hHeld ?_
        simp only [Act.put, List.setIfInBounds_toArray, List.set_cons_zero, List.set_cons_succ]
        refine wpAnyH_take (i := 5) (oi := ⟨some 15, _, _, _, _, _⟩) (v := (.string M)) rfl (by kernel_rfl) (by kernel_rfl) (by kernel_rfl) (fun _ _ _ h => h) (.inl ⟨by rfl, fun w hw => by dsimp only at hw; go_simp⟩) hHeld ?_
        simp only [Act.put, List.setIfInBounds_toArray, List.set_cons_zero, List.set_cons_succ]
        refine wpAnyH_ready (rs := [6, 10]) (by kernel_rfl) (by simp) ?_
        refine AllReadyH.cons (o := ⟨some 16, _, _, _, _, _⟩) rfl (fun K hK => ?_) (AllReadyH.cons (o := ⟨some 20, _, _, _, _, _⟩) rfl (fun K hK => ?_) AllReadyH.nil)
        · go_simp
          have hw2 := hw1.box #[.string ⟨#[68, 68]⟩, .string ⟨#[68]⟩] 9
          obtain ⟨V2, hW⟩ : ∃ W, W = V1.alloc (.cells #[.string ⟨#[68, 68]⟩, .string ⟨#[68]⟩] 9) := ⟨_, rfl⟩
          obtain ⟨bD, hB⟩ : ∃ b, b = V1.heap.size := ⟨_, rfl⟩
          rw [← hW, ← hB] at hw2 ⊢
          clear hW hB
          refine hK.out _ _ (by exact ⟨cell_at (hw2.obj (x := A) (cs := #[.int .i64 x0, .int .i64 x1, .int .i64 x2]) (t := 22) 0 rfl) 0 rfl, (have HM := HM; HM.out _ _ _ (hw2.obj (x := bM) (cs := #[.string ⟨#[77, 77]⟩, .string ⟨#[77]⟩]) (t := 9) 1 rfl))⟩) (fun hHeld => ?_)
          clear hK K
          refine wpAnyH_more (S2 := fun w' => ((w'.cell? ⟨A, 0, none⟩ = some (.int .i64 x0)) ∧ w'.cell? ⟨bM, j1, none⟩ = some (.string M)) ∧ w'.cell? ⟨bD, j2, none⟩ = some (.string D)) (fun _ h => h.1) _ _ _ _ ?_
          have hHeld2 : ((V2.cell? ⟨A, 0, none⟩ = some (.int .i64 x0)) ∧ V2.cell? ⟨bM, j1, none⟩ = some (.string M)) ∧ V2.cell? ⟨bD, j2, none⟩ = some (.string D) := ⟨hHeld, (have HD := HD; HD.out _ _ _ (hw2.obj (x := bD) (cs := #[.string ⟨#[68, 68]⟩, .string ⟨#[68]⟩]) (t := 9) 2 rfl))⟩
          clear hHeld
          have hHeld := hHeld2
          clear hHeld2
          refine wpAnyH_ready (rs := [10]) (by kernel_rfl) (by simp) ?_
          refine AllReadyH.cons (o := ⟨some 20, _, _, _, _, _⟩) rfl (fun K hK => ?_) AllReadyH.nil
          go_simp
          refine (M2.out _).mono ?_
          rintro e w9 ⟨rfl, rfl⟩
          refine hK.out _ _ hHeld (fun hHeld => ?_)
          clear hK K
          refine wpAnyH_take (i := 11) (oi := ⟨some 21, _, _, _, _, _⟩) (v := (.pointer (some ⟨bD, j2, none⟩))) rfl (by kernel_rfl) (by kernel_rfl) (by kernel_rfl) (fun _ _ _ h => h) (.inl ⟨by rfl, fun w hw => by dsimp only at hw; go_simp⟩) hHeld ?_
          simp only [Act.put, List.setIfInBounds_toArray, List.set_cons_zero, List.set_cons_succ]
          refine wpAnyH_take (i := 12) (oi := ⟨some 22, _, _, _, _, _⟩) (v := (.string D)) rfl (by kernel_rfl) (by kernel_rfl) (by kernel_rfl) (fun _ _ _ h => h) (.inl ⟨by rfl, fun w hw => by dsimp only at hw; go_simp⟩) hHeld ?_
          simp only [Act.put, List.setIfInBounds_toArray, List.set_cons_zero, List.set_cons_succ]
          refine wpAnyH_ready (rs := [13]) (by kernel_rfl) (by simp) ?_
          refine AllReadyH.cons (o := ⟨some 23, _, _, _, _, _⟩) rfl (fun K hK => ?_) AllReadyH.nil
          go_simp
          have hw3 := hw2.box #[.string ⟨#[89, 89, 89, 89]⟩, .string M, .string D] 9
          obtain ⟨V3, hW⟩ : ∃ W, W = V2.alloc (.cells #[.string ⟨#[89, 89, 89, 89]⟩, .string M, .string D] 9) := ⟨_, rfl⟩
          obtain ⟨bF, hB⟩ : ∃ b, b = V2.heap.size := ⟨_, rfl⟩
          rw [← hW, ← hB] at hw3 ⊢
          clear hW hB
          refine hK.out _ _ (by exact ⟨⟨cell_at (hw3.obj (x := A) (cs := #[.int .i64 x0, .int .i64 x1, .int .i64 x2]) (t := 22) 0 rfl) 0 rfl, (have HM := HM; HM.out _ _ _ (hw3.obj (x := bM) (cs := #[.string ⟨#[77, 77]⟩, .string ⟨#[77]⟩]) (t := 9) 1 rfl))⟩, (have HD := HD; HD.out _ _ _ (hw3.obj (x := bD) (cs := #[.string ⟨#[68, 68]⟩, .string ⟨#[68]⟩]) (t := 9) 2 rfl))⟩) (fun hHeld => ?_)
          clear hK K
          refine wpAnyH_take (i := 14) (oi := ⟨some 5, _, _, _, _, _⟩) (v := (.slice (some ⟨bF, 0, none⟩) 3 3)) rfl (by kernel_rfl) (by kernel_rfl) (by kernel_rfl) (fun _ _ _ h => h) (.inl ⟨by rfl, fun w hw => by dsimp only at hw; go_simp⟩) hHeld ?_
          simp only [Act.put, List.setIfInBounds_toArray, List.set_cons_zero, List.set_cons_succ]
          refine wpAnyH_done (by kernel_rfl) ?_ _
          go_wp2_with fail
          go_meet
          refine ⟨bF, M, D, rfl, ?_, hM, hD⟩
          exact hw3.reidx (fun j => if j = 0 then 0 else 3) (fun j U hj => by match j, hj with | 0, hj => simpa using hj | 1, hj => simpa using hj) (fun i j hi hj e => by simp at hi hj; split at e <;> split at e <;> omega)
        · go_simp
          refine (M2.out _).mono ?_
          rintro e w9 ⟨rfl, rfl⟩
          refine hK.out _ _ hHeld (fun hHeld => ?_)
          clear hK K
          refine wpAnyH_ready (rs := [6]) (by kernel_rfl) (by simp) ?_
          refine AllReadyH.cons (o := ⟨some 16, _, _, _, _, _⟩) rfl (fun K hK => ?_) AllReadyH.nil
          go_simp
          have hw2 := hw1.box #[.string ⟨#[68, 68]⟩, .string ⟨#[68]⟩] 9
          obtain ⟨V2, hW⟩ : ∃ W, W = V1.alloc (.cells #[.string ⟨#[68, 68]⟩, .string ⟨#[68]⟩] 9) := ⟨_, rfl⟩
          obtain ⟨bD, hB⟩ : ∃ b, b = V1.heap.size := ⟨_, rfl⟩
          rw [← hW, ← hB] at hw2 ⊢
          clear hW hB
          refine hK.out _ _ (by exact ⟨cell_at (hw2.obj (x := A) (cs := #[.int .i64 x0, .int .i64 x1, .int .i64 x2]) (t := 22) 0 rfl) 0 rfl, (have HM := HM; HM.out _ _ _ (hw2.obj (x := bM) (cs := #[.string ⟨#[77, 77]⟩, .string ⟨#[77]⟩]) (t := 9) 1 rfl))⟩) (fun hHeld => ?_)
          clear hK K
          refine wpAnyH_more (S2 := fun w' => ((w'.cell? ⟨A, 0, none⟩ = some (.int .i64 x0)) ∧ w'.cell? ⟨bM, j1, none⟩ = some (.string M)) ∧ w'.cell? ⟨bD, j2, none⟩ = some (.string D)) (fun _ h => h.1) _ _ _ _ ?_
          have hHeld2 : ((V2.cell? ⟨A, 0, none⟩ = some (.int .i64 x0)) ∧ V2.cell? ⟨bM, j1, none⟩ = some (.string M)) ∧ V2.cell? ⟨bD, j2, none⟩ = some (.string D) := ⟨hHeld, (have HD := HD; HD.out _ _ _ (hw2.obj (x := bD) (cs := #[.string ⟨#[68, 68]⟩, .string ⟨#[68]⟩]) (t := 9) 2 rfl))⟩
          clear hHeld
          have hHeld := hHeld2
          clear hHeld2
          refine wpAnyH_take (i := 11) (oi := ⟨some 21, _, _, _, _, _⟩) (v := (.pointer (some ⟨bD, j2, none⟩))) rfl (by kernel_rfl) (by kernel_rfl) (by kernel_rfl) (fun _ _ _ h => h) (.inl ⟨by rfl, fun w hw => by dsimp only at hw; go_simp⟩) hHeld ?_
          simp only [Act.put, List.setIfInBounds_toArray, List.set_cons_zero, List.set_cons_succ]
          refine wpAnyH_take (i := 12) (oi := ⟨some 22, _, _, _, _, _⟩) (v := (.string D)) rfl (by kernel_rfl) (by kernel_rfl) (by kernel_rfl) (fun _ _ _ h => h) (.inl ⟨by rfl, fun w hw => by dsimp only at hw; go_simp⟩) hHeld ?_
          simp only [Act.put, List.setIfInBounds_toArray, List.set_cons_zero, List.set_cons_succ]
          refine wpAnyH_ready (rs := [13]) (by kernel_rfl) (by simp) ?_
          refine AllReadyH.cons (o := ⟨some 23, _, _, _, _, _⟩) rfl (fun K hK => ?_) AllReadyH.nil
          go_simp
          have hw3 := hw2.box #[.string ⟨#[89, 89, 89, 89]⟩, .string M, .string D] 9
          obtain ⟨V3, hW⟩ : ∃ W, W = V2.alloc (.cells #[.string ⟨#[89, 89, 89, 89]⟩, .string M, .string D] 9) := ⟨_, rfl⟩
          obtain ⟨bF, hB⟩ : ∃ b, b = V2.heap.size := ⟨_, rfl⟩
          rw [← hW, ← hB] at hw3 ⊢
          clear hW hB
          refine hK.out _ _ (by exact ⟨⟨cell_at (hw3.obj (x := A) (cs := #[.int .i64 x0, .int .i64 x1, .int .i64 x2]) (t := 22) 0 rfl) 0 rfl, (have HM := HM; HM.out _ _ _ (hw3.obj (x := bM) (cs := #[.string ⟨#[77, 77]⟩, .string ⟨#[77]⟩]) (t := 9) 1 rfl))⟩, (have HD := HD; HD.out _ _ _ (hw3.obj (x := bD) (cs := #[.string ⟨#[68, 68]⟩, .string ⟨#[68]⟩]) (t := 9) 2 rfl))⟩) (fun hHeld => ?_)
          clear hK K
          refine wpAnyH_take (i := 14) (oi := ⟨some 5, _, _, _, _, _⟩) (v := (.slice (some ⟨bF, 0, none⟩) 3 3)) rfl (by kernel_rfl) (by kernel_rfl) (by kernel_rfl) (fun _ _ _ h => h) (.inl ⟨by rfl, fun w hw => by dsimp only at hw; go_simp⟩) hHeld ?_
          simp only [Act.put, List.setIfInBounds_toArray, List.set_cons_zero, List.set_cons_succ]
          refine wpAnyH_done (by kernel_rfl) ?_ _
          go_wp2_with fail
          go_meet
          refine ⟨bF, M, D, rfl, ?_, hM, hD⟩
          exact hw3.reidx (fun j => if j = 0 then 0 else 3) (fun j U hj => by match j, hj with | 0, hj => simpa using hj | 1, hj => simpa using hj) (fun i j hi hj e => by simp at hi hj; split at e <;> split at e <;> omega)
      · go_simp
        have hw1 := hw0.box #[.string ⟨#[68, 68]⟩, .string ⟨#[68]⟩] 9
        obtain ⟨V1, hW⟩ : ∃ W, W = V0.alloc (.cells #[.string ⟨#[68, 68]⟩, .string ⟨#[68]⟩] 9) := ⟨_, rfl⟩
        obtain ⟨bD, hB⟩ : ∃ b, b = V0.heap.size := ⟨_, rfl⟩
        rw [← hW, ← hB] at hw1 ⊢
        clear hW hB
        refine hK.out _ _ (by exact cell_at (hw1.obj (x := A) (cs := #[.int .i64 x0, .int .i64 x1, .int .i64 x2]) (t := 22) 0 rfl) 0 rfl) (fun hHeld => ?_)
        clear hK K
        refine wpAnyH_more (S2 := fun w' => (w'.cell? ⟨A, 0, none⟩ = some (.int .i64 x0)) ∧ w'.cell? ⟨bD, j2, none⟩ = some (.string D)) (fun _ h => h.1) _ _ _ _ ?_
        have hHeld2 : (V1.cell? ⟨A, 0, none⟩ = some (.int .i64 x0)) ∧ V1.cell? ⟨bD, j2, none⟩ = some (.string D) := ⟨hHeld, (have HD := HD; HD.out _ _ _ (hw1.obj (x := bD) (cs := #[.string ⟨#[68, 68]⟩, .string ⟨#[68]⟩]) (t := 9) 1 rfl))⟩
        clear hHeld
        have hHeld := hHeld2
        clear hHeld2
        refine wpAnyH_ready (rs := [0, 10]) (by kernel_rfl) (by simp) ?_
        refine AllReadyH.cons (o := ⟨some 10, _, _, _, _, _⟩) rfl (fun K hK => ?_) (AllReadyH.cons (o := ⟨some 20, _, _, _, _, _⟩) rfl (fun K hK => ?_) AllReadyH.nil)
        · go_simp
          have hw2 := hw1.box #[.string ⟨#[77, 77]⟩, .string ⟨#[77]⟩] 9
          obtain ⟨V2, hW⟩ : ∃ W, W = V1.alloc (.cells #[.string ⟨#[77, 77]⟩, .string ⟨#[77]⟩] 9) := ⟨_, rfl⟩
          obtain ⟨bM, hB⟩ : ∃ b, b = V1.heap.size := ⟨_, rfl⟩
          rw [← hW, ← hB] at hw2 ⊢
          clear hW hB
          refine hK.out _ _ (by exact ⟨cell_at (hw2.obj (x := A) (cs := #[.int .i64 x0, .int .i64 x1, .int .i64 x2]) (t := 22) 0 rfl) 0 rfl, (have HD := HD; HD.out _ _ _ (hw2.obj (x := bD) (cs := #[.string ⟨#[68, 68]⟩, .string ⟨#[68]⟩]) (t := 9) 1 rfl))⟩) (fun hHeld => ?_)
          clear hK K
          refine wpAnyH_more (S2 := fun w' => ((w'.cell? ⟨A, 0, none⟩ = some (.int .i64 x0)) ∧ w'.cell? ⟨bD, j2, none⟩ = some (.string D)) ∧ w'.cell? ⟨bM, j1, none⟩ = some (.string M)) (fun _ h => h.1) _ _ _ _ ?_
          have hHeld2 : ((V2.cell? ⟨A, 0, none⟩ = some (.int .i64 x0)) ∧ V2.cell? ⟨bD, j2, none⟩ = some (.string D)) ∧ V2.cell? ⟨bM, j1, none⟩ = some (.string M) := ⟨hHeld, (have HM := HM; HM.out _ _ _ (hw2.obj (x := bM) (cs := #[.string ⟨#[77, 77]⟩, .string ⟨#[77]⟩]) (t := 9) 2 rfl))⟩
          clear hHeld
          have hHeld := hHeld2
          clear hHeld2
          refine wpAnyH_take (i := 4) (oi := ⟨some 14, _, _, _, _, _⟩) (v := (.pointer (some ⟨bM, j1, none⟩))) rfl (by kernel_rfl) (by kernel_rfl) (by kernel_rfl) (fun _ _ _ h => h) (.inl ⟨by rfl, fun w hw => by dsimp only at hw; go_simp⟩) hHeld ?_
          simp only [Act.put, List.setIfInBounds_toArray, List.set_cons_zero, List.set_cons_succ]
          refine wpAnyH_take (i := 5) (oi := ⟨some 15, _, _, _, _, _⟩) (v := (.string M)) rfl (by kernel_rfl) (by kernel_rfl) (by kernel_rfl) (fun _ _ _ h => h) (.inl ⟨by rfl, fun w hw => by dsimp only at hw; go_simp⟩) hHeld ?_
          simp only [Act.put, List.setIfInBounds_toArray, List.set_cons_zero, List.set_cons_succ]
          refine wpAnyH_ready (rs := [10]) (by kernel_rfl) (by simp) ?_
          refine AllReadyH.cons (o := ⟨some 20, _, _, _, _, _⟩) rfl (fun K hK => ?_) AllReadyH.nil
          go_simp
          refine (M2.out _).mono ?_
          rintro e w9 ⟨rfl, rfl⟩
          refine hK.out _ _ hHeld (fun hHeld => ?_)
          clear hK K
          refine wpAnyH_take (i := 11) (oi := ⟨some 21, _, _, _, _, _⟩) (v := (.pointer (some ⟨bD, j2, none⟩))) rfl (by kernel_rfl) (by kernel_rfl) (by kernel_rfl) (fun _ _ _ h => h) (.inl ⟨by rfl, fun w hw => by dsimp only at hw; go_simp⟩) hHeld ?_
          simp only [Act.put, List.setIfInBounds_toArray, List.set_cons_zero, List.set_cons_succ]
          refine wpAnyH_take (i := 12) (oi := ⟨some 22, _, _, _, _, _⟩) (v := (.string D)) rfl (by kernel_rfl) (by kernel_rfl) (by kernel_rfl) (fun _ _ _ h => h) (.inl ⟨by rfl, fun w hw => by dsimp only at hw; go_simp⟩) hHeld ?_
          simp only [Act.put, List.setIfInBounds_toArray, List.set_cons_zero, List.set_cons_succ]
          refine wpAnyH_ready (rs := [13]) (by kernel_rfl) (by simp) ?_
          refine AllReadyH.cons (o := ⟨some 23, _, _, _, _, _⟩) rfl (fun K hK => ?_) AllReadyH.nil
          go_simp
          have hw3 := hw2.box #[.string ⟨#[89, 89, 89, 89]⟩, .string M, .string D] 9
          obtain ⟨V3, hW⟩ : ∃ W, W = V2.alloc (.cells #[.string ⟨#[89, 89, 89, 89]⟩, .string M, .string D] 9) := ⟨_, rfl⟩
          obtain ⟨bF, hB⟩ : ∃ b, b = V2.heap.size := ⟨_, rfl⟩
          rw [← hW, ← hB] at hw3 ⊢
          clear hW hB
          refine hK.out _ _ (by exact ⟨⟨cell_at (hw3.obj (x := A) (cs := #[.int .i64 x0, .int .i64 x1, .int .i64 x2]) (t := 22) 0 rfl) 0 rfl, (have HD := HD; HD.out _ _ _ (hw3.obj (x := bD) (cs := #[.string ⟨#[68, 68]⟩, .string ⟨#[68]⟩]) (t := 9) 1 rfl))⟩, (have HM := HM; HM.out _ _ _ (hw3.obj (x := bM) (cs := #[.string ⟨#[77, 77]⟩, .string ⟨#[77]⟩]) (t := 9) 2 rfl))⟩) (fun hHeld => ?_)
          clear hK K
          refine wpAnyH_take (i := 14) (oi := ⟨some 5, _, _, _, _, _⟩) (v := (.slice (some ⟨bF, 0, none⟩) 3 3)) rfl (by kernel_rfl) (by kernel_rfl) (by kernel_rfl) (fun _ _ _ h => h) (.inl ⟨by rfl, fun w hw => by dsimp only at hw; go_simp⟩) hHeld ?_
          simp only [Act.put, List.setIfInBounds_toArray, List.set_cons_zero, List.set_cons_succ]
          refine wpAnyH_done (by kernel_rfl) ?_ _
          go_wp2_with fail
          go_meet
          refine ⟨bF, M, D, rfl, ?_, hM, hD⟩
          exact hw3.reidx (fun j => if j = 0 then 0 else 3) (fun j U hj => by match j, hj with | 0, hj => simpa using hj | 1, hj => simpa using hj) (fun i j hi hj e => by simp at hi hj; split at e <;> split at e <;> omega)
        · go_simp
          refine (M2.out _).mono ?_
          rintro e w9 ⟨rfl, rfl⟩
          refine hK.out _ _ hHeld (fun hHeld => ?_)
          clear hK K
          refine wpAnyH_take (i := 11) (oi := ⟨some 21, _, _, _, _, _⟩) (v := (.pointer (some ⟨bD, j2, none⟩))) rfl (by kernel_rfl) (by kernel_rfl) (by kernel_rfl) (fun _ _ _ h => h) (.inl ⟨by rfl, fun w hw => by dsimp only at hw; go_simp⟩) hHeld ?_
          simp only [Act.put, List.setIfInBounds_toArray, List.set_cons_zero, List.set_cons_succ]
          refine wpAnyH_take (i := 12) (oi := ⟨some 22, _, _, _, _, _⟩) (v := (.string D)) rfl (by kernel_rfl) (by kernel_rfl) (by kernel_rfl) (fun _ _ _ h => h) (.inl ⟨by rfl, fun w hw => by dsimp only at hw; go_simp⟩) hHeld ?_
          simp only [Act.put, List.setIfInBounds_toArray, List.set_cons_zero, List.set_cons_succ]
          refine wpAnyH_ready (rs := [0]) (by kernel_rfl) (by simp) ?_
          refine AllReadyH.cons (o := ⟨some 10, _, _, _, _, _⟩) rfl (fun K hK => ?_) AllReadyH.nil
          go_simp
          have hw2 := hw1.box #[.string ⟨#[77, 77]⟩, .string ⟨#[77]⟩] 9
          obtain ⟨V2, hW⟩ : ∃ W, W = V1.alloc (.cells #[.string ⟨#[77, 77]⟩, .string ⟨#[77]⟩] 9) := ⟨_, rfl⟩
          obtain ⟨bM, hB⟩ : ∃ b, b = V1.heap.size := ⟨_, rfl⟩
          rw [← hW, ← hB] at hw2 ⊢
          clear hW hB
          refine hK.out _ _ (by exact ⟨cell_at (hw2.obj (x := A) (cs := #[.int .i64 x0, .int .i64 x1, .int .i64 x2]) (t := 22) 0 rfl) 0 rfl, (have HD := HD; HD.out _ _ _ (hw2.obj (x := bD) (cs := #[.string ⟨#[68, 68]⟩, .string ⟨#[68]⟩]) (t := 9) 1 rfl))⟩) (fun hHeld => ?_)
          clear hK K
          refine wpAnyH_more (S2 := fun w' => ((w'.cell? ⟨A, 0, none⟩ = some (.int .i64 x0)) ∧ w'.cell? ⟨bD, j2, none⟩ = some (.string D)) ∧ w'.cell? ⟨bM, j1, none⟩ = some (.string M)) (fun _ h => h.1) _ _ _ _ ?_
          have hHeld2 : ((V2.cell? ⟨A, 0, none⟩ = some (.int .i64 x0)) ∧ V2.cell? ⟨bD, j2, none⟩ = some (.string D)) ∧ V2.cell? ⟨bM, j1, none⟩ = some (.string M) := ⟨hHeld, (have HM := HM; HM.out _ _ _ (hw2.obj (x := bM) (cs := #[.string ⟨#[77, 77]⟩, .string ⟨#[77]⟩]) (t := 9) 2 rfl))⟩
          clear hHeld
          have hHeld := hHeld2
          clear hHeld2
          refine wpAnyH_take (i := 4) (oi := ⟨some 14, _, _, _, _, _⟩) (v := (.pointer (some ⟨bM, j1, none⟩))) rfl (by kernel_rfl) (by kernel_rfl) (by kernel_rfl) (fun _ _ _ h => h) (.inl ⟨by rfl, fun w hw => by dsimp only at hw; go_simp⟩) hHeld ?_
          simp only [Act.put, List.setIfInBounds_toArray, List.set_cons_zero, List.set_cons_succ]
          refine wpAnyH_take (i := 5) (oi := ⟨some 15, _, _, _, _, _⟩) (v := (.string M)) rfl (by kernel_rfl) (by kernel_rfl) (by kernel_rfl) (fun _ _ _ h => h) (.inl ⟨by rfl, fun w hw => by dsimp only at hw; go_simp⟩) hHeld ?_
          simp only [Act.put, List.setIfInBounds_toArray, List.set_cons_zero, List.set_cons_succ]
          refine wpAnyH_ready (rs := [13]) (by kernel_rfl) (by simp) ?_
          refine AllReadyH.cons (o := ⟨some 23, _, _, _, _, _⟩) rfl (fun K hK => ?_) AllReadyH.nil
          go_simp
          have hw3 := hw2.box #[.string ⟨#[89, 89, 89, 89]⟩, .string M, .string D] 9
          obtain ⟨V3, hW⟩ : ∃ W, W = V2.alloc (.cells #[.string ⟨#[89, 89, 89, 89]⟩, .string M, .string D] 9) := ⟨_, rfl⟩
          obtain ⟨bF, hB⟩ : ∃ b, b = V2.heap.size := ⟨_, rfl⟩
          rw [← hW, ← hB] at hw3 ⊢
          clear hW hB
          refine hK.out _ _ (by exact ⟨⟨cell_at (hw3.obj (x := A) (cs := #[.int .i64 x0, .int .i64 x1, .int .i64 x2]) (t := 22) 0 rfl) 0 rfl, (have HD := HD; HD.out _ _ _ (hw3.obj (x := bD) (cs := #[.string ⟨#[68, 68]⟩, .string ⟨#[68]⟩]) (t := 9) 1 rfl))⟩, (have HM := HM; HM.out _ _ _ (hw3.obj (x := bM) (cs := #[.string ⟨#[77, 77]⟩, .string ⟨#[77]⟩]) (t := 9) 2 rfl))⟩) (fun hHeld => ?_)
          clear hK K
          refine wpAnyH_take (i := 14) (oi := ⟨some 5, _, _, _, _, _⟩) (v := (.slice (some ⟨bF, 0, none⟩) 3 3)) rfl (by kernel_rfl) (by kernel_rfl) (by kernel_rfl) (fun _ _ _ h => h) (.inl ⟨by rfl, fun w hw => by dsimp only at hw; go_simp⟩) hHeld ?_
          simp only [Act.put, List.setIfInBounds_toArray, List.set_cons_zero, List.set_cons_succ]
          refine wpAnyH_done (by kernel_rfl) ?_ _
          go_wp2_with fail
          go_meet
          refine ⟨bF, M, D, rfl, ?_, hM, hD⟩
          exact hw3.reidx (fun j => if j = 0 then 0 else 3) (fun j U hj => by match j, hj with | 0, hj => simpa using hj | 1, hj => simpa using hj) (fun i j hi hj e => by simp at hi hj; split at e <;> split at e <;> omega)
      · go_simp
        refine (M2.out _).mono ?_
        rintro e w9 ⟨rfl, rfl⟩
        refine hK.out _ _ hHeld (fun hHeld => ?_)
        clear hK K
        refine wpAnyH_ready (rs := [0, 6]) (by kernel_rfl) (by simp) ?_
        refine AllReadyH.cons (o := ⟨some 10, _, _, _, _, _⟩) rfl (fun K hK => ?_) (AllReadyH.cons (o := ⟨some 16, _, _, _, _, _⟩) rfl (fun K hK => ?_) AllReadyH.nil)
        · go_simp
          have hw1 := hw0.box #[.string ⟨#[77, 77]⟩, .string ⟨#[77]⟩] 9
          obtain ⟨V1, hW⟩ : ∃ W, W = V0.alloc (.cells #[.string ⟨#[77, 77]⟩, .string ⟨#[77]⟩] 9) := ⟨_, rfl⟩
          obtain ⟨bM, hB⟩ : ∃ b, b = V0.heap.size := ⟨_, rfl⟩
          rw [← hW, ← hB] at hw1 ⊢
          clear hW hB
          refine hK.out _ _ (by exact cell_at (hw1.obj (x := A) (cs := #[.int .i64 x0, .int .i64 x1, .int .i64 x2]) (t := 22) 0 rfl) 0 rfl) (fun hHeld => ?_)
          clear hK K
          refine wpAnyH_more (S2 := fun w' => (w'.cell? ⟨A, 0, none⟩ = some (.int .i64 x0)) ∧ w'.cell? ⟨bM, j1, none⟩ = some (.string M)) (fun _ h => h.1) _ _ _ _ ?_
          have hHeld2 : (V1.cell? ⟨A, 0, none⟩ = some (.int .i64 x0)) ∧ V1.cell? ⟨bM, j1, none⟩ = some (.string M) := ⟨hHeld, (have HM := HM; HM.out _ _ _ (hw1.obj (x := bM) (cs := #[.string ⟨#[77, 77]⟩, .string ⟨#[77]⟩]) (t := 9) 1 rfl))⟩
          clear hHeld
          have hHeld := hHeld2
          clear hHeld2
          refine wpAnyH_take (i := 4) (oi := ⟨some 14, _, _, _, _, _⟩) (v := (.pointer (some ⟨bM, j1, none⟩))) rfl (by kernel_rfl) (by kernel_rfl) (by kernel_rfl) (fun _ _ _ h => h) (.inl ⟨by rfl, fun w hw => by dsimp only at hw; go_simp⟩) hHeld ?_
          simp only [Act.put, List.setIfInBounds_toArray, List.set_cons_zero, List.set_cons_succ]
          refine wpAnyH_take (i := 5) (oi := ⟨some 15, _, _, _, _, _⟩) (v := (.string M)) rfl (by kernel_rfl) (by kernel_rfl) (by kernel_rfl) (fun _ _ _ h => h) (.inl ⟨by rfl, fun w hw => by dsimp only at hw; go_simp⟩) hHeld ?_
          simp only [Act.put, List.setIfInBounds_toArray, List.set_cons_zero, List.set_cons_succ]
          refine wpAnyH_ready (rs := [6]) (by kernel_rfl) (by simp) ?_
          refine AllReadyH.cons (o := ⟨some 16, _, _, _, _, _⟩) rfl (fun K hK => ?_) AllReadyH.nil
          go_simp
          have hw2 := hw1.box #[.string ⟨#[68, 68]⟩, .string ⟨#[68]⟩] 9
          obtain ⟨V2, hW⟩ : ∃ W, W = V1.alloc (.cells #[.string ⟨#[68, 68]⟩, .string ⟨#[68]⟩] 9) := ⟨_, rfl⟩
          obtain ⟨bD, hB⟩ : ∃ b, b = V1.heap.size := ⟨_, rfl⟩
          rw [← hW, ← hB] at hw2 ⊢
          clear hW hB
          refine hK.out _ _ (by exact ⟨cell_at (hw2.obj (x := A) (cs := #[.int .i64 x0, .int .i64 x1, .int .i64 x2]) (t := 22) 0 rfl) 0 rfl, (have HM := HM; HM.out _ _ _ (hw2.obj (x := bM) (cs := #[.string ⟨#[77, 77]⟩, .string ⟨#[77]⟩]) (t := 9) 1 rfl))⟩) (fun hHeld => ?_)
          clear hK K
          refine wpAnyH_more (S2 := fun w' => ((w'.cell? ⟨A, 0, none⟩ = some (.int .i64 x0)) ∧ w'.cell? ⟨bM, j1, none⟩ = some (.string M)) ∧ w'.cell? ⟨bD, j2, none⟩ = some (.string D)) (fun _ h => h.1) _ _ _ _ ?_
          have hHeld2 : ((V2.cell? ⟨A, 0, none⟩ = some (.int .i64 x0)) ∧ V2.cell? ⟨bM, j1, none⟩ = some (.string M)) ∧ V2.cell? ⟨bD, j2, none⟩ = some (.string D) := ⟨hHeld, (have HD := HD; HD.out _ _ _ (hw2.obj (x := bD) (cs := #[.string ⟨#[68, 68]⟩, .string ⟨#[68]⟩]) (t := 9) 2 rfl))⟩
          clear hHeld
          have hHeld := hHeld2
          clear hHeld2
          refine wpAnyH_take (i := 11) (oi := ⟨some 21, _, _, _, _, _⟩) (v := (.pointer (some ⟨bD, j2, none⟩))) rfl (by kernel_rfl) (by kernel_rfl) (by kernel_rfl) (fun _ _ _ h => h) (.inl ⟨by rfl, fun w hw => by dsimp only at hw; go_simp⟩) hHeld ?_
          simp only [Act.put, List.setIfInBounds_toArray, List.set_cons_zero, List.set_cons_succ]
          refine wpAnyH_take (i := 12) (oi := ⟨some 22, _, _, _, _, _⟩) (v := (.string D)) rfl (by kernel_rfl) (by kernel_rfl) (by kernel_rfl) (fun _ _ _ h => h) (.inl ⟨by rfl, fun w hw => by dsimp only at hw; go_simp⟩) hHeld ?_
          simp only [Act.put, List.setIfInBounds_toArray, List.set_cons_zero, List.set_cons_succ]
          refine wpAnyH_ready (rs := [13]) (by kernel_rfl) (by simp) ?_
          refine AllReadyH.cons (o := ⟨some 23, _, _, _, _, _⟩) rfl (fun K hK => ?_) AllReadyH.nil
          go_simp
          have hw3 := hw2.box #[.string ⟨#[89, 89, 89, 89]⟩, .string M, .string D] 9
          obtain ⟨V3, hW⟩ : ∃ W, W = V2.alloc (.cells #[.string ⟨#[89, 89, 89, 89]⟩, .string M, .string D] 9) := ⟨_, rfl⟩
          obtain ⟨bF, hB⟩ : ∃ b, b = V2.heap.size := ⟨_, rfl⟩
          rw [← hW, ← hB] at hw3 ⊢
          clear hW hB
          refine hK.out _ _ (by exact ⟨⟨cell_at (hw3.obj (x := A) (cs := #[.int .i64 x0, .int .i64 x1, .int .i64 x2]) (t := 22) 0 rfl) 0 rfl, (have HM := HM; HM.out _ _ _ (hw3.obj (x := bM) (cs := #[.string ⟨#[77, 77]⟩, .string ⟨#[77]⟩]) (t := 9) 1 rfl))⟩, (have HD := HD; HD.out _ _ _ (hw3.obj (x := bD) (cs := #[.string ⟨#[68, 68]⟩, .string ⟨#[68]⟩]) (t := 9) 2 rfl))⟩) (fun hHeld => ?_)
          clear hK K
          refine wpAnyH_take (i := 14) (oi := ⟨some 5, _, _, _, _, _⟩) (v := (.slice (some ⟨bF, 0, none⟩) 3 3)) rfl (by kernel_rfl) (by kernel_rfl) (by kernel_rfl) (fun _ _ _ h => h) (.inl ⟨by rfl, fun w hw => by dsimp only at hw; go_simp⟩) hHeld ?_
          simp only [Act.put, List.setIfInBounds_toArray, List.set_cons_zero, List.set_cons_succ]
          refine wpAnyH_done (by kernel_rfl) ?_ _
          go_wp2_with fail
          go_meet
          refine ⟨bF, M, D, rfl, ?_, hM, hD⟩
          exact hw3.reidx (fun j => if j = 0 then 0 else 3) (fun j U hj => by match j, hj with | 0, hj => simpa using hj | 1, hj => simpa using hj) (fun i j hi hj e => by simp at hi hj; split at e <;> split at e <;> omega)
        · go_simp
          have hw1 := hw0.box #[.string ⟨#[68, 68]⟩, .string ⟨#[68]⟩] 9
          obtain ⟨V1, hW⟩ : ∃ W, W = V0.alloc (.cells #[.string ⟨#[68, 68]⟩, .string ⟨#[68]⟩] 9) := ⟨_, rfl⟩
          obtain ⟨bD, hB⟩ : ∃ b, b = V0.heap.size := ⟨_, rfl⟩
          rw [← hW, ← hB] at hw1 ⊢
          clear hW hB
          refine hK.out _ _ (by exact cell_at (hw1.obj (x := A) (cs := #[.int .i64 x0, .int .i64 x1, .int .i64 x2]) (t := 22) 0 rfl) 0 rfl) (fun hHeld => ?_)
          clear hK K
          refine wpAnyH_more (S2 := fun w' => (w'.cell? ⟨A, 0, none⟩ = some (.int .i64 x0)) ∧ w'.cell? ⟨bD, j2, none⟩ = some (.string D)) (fun _ h => h.1) _ _ _ _ ?_
          have hHeld2 : (V1.cell? ⟨A, 0, none⟩ = some (.int .i64 x0)) ∧ V1.cell? ⟨bD, j2, none⟩ = some (.string D) := ⟨hHeld, (have HD := HD; HD.out _ _ _ (hw1.obj (x := bD) (cs := #[.string ⟨#[68, 68]⟩, .string ⟨#[68]⟩]) (t := 9) 1 rfl))⟩
          clear hHeld
          have hHeld := hHeld2
          clear hHeld2
          refine wpAnyH_take (i := 11) (oi := ⟨some 21, _, _, _, _, _⟩) (v := (.pointer (some ⟨bD, j2, none⟩))) rfl (by kernel_rfl) (by kernel_rfl) (by kernel_rfl) (fun _ _ _ h => h) (.inl ⟨by rfl, fun w hw => by dsimp only at hw; go_simp⟩) hHeld ?_
          simp only [Act.put, List.setIfInBounds_toArray, List.set_cons_zero, List.set_cons_succ]
          refine wpAnyH_take (i := 12) (oi := ⟨some 22, _, _, _, _, _⟩) (v := (.string D)) rfl (by kernel_rfl) (by kernel_rfl) (by kernel_rfl) (fun _ _ _ h => h) (.inl ⟨by rfl, fun w hw => by dsimp only at hw; go_simp⟩) hHeld ?_
          simp only [Act.put, List.setIfInBounds_toArray, List.set_cons_zero, List.set_cons_succ]
          refine wpAnyH_ready (rs := [0]) (by kernel_rfl) (by simp) ?_
          refine AllReadyH.cons (o := ⟨some 10, _, _, _, _, _⟩) rfl (fun K hK => ?_) AllReadyH.nil
          go_simp
          have hw2 := hw1.box #[.string ⟨#[77, 77]⟩, .string ⟨#[77]⟩] 9
          obtain ⟨V2, hW⟩ : ∃ W, W = V1.alloc (.cells #[.string ⟨#[77, 77]⟩, .string ⟨#[77]⟩] 9) := ⟨_, rfl⟩
          obtain ⟨bM, hB⟩ : ∃ b, b = V1.heap.size := ⟨_, rfl⟩
          rw [← hW, ← hB] at hw2 ⊢
          clear hW hB
          refine hK.out _ _ (by exact ⟨cell_at (hw2.obj (x := A) (cs := #[.int .i64 x0, .int .i64 x1, .int .i64 x2]) (t := 22) 0 rfl) 0 rfl, (have HD := HD; HD.out _ _ _ (hw2.obj (x := bD) (cs := #[.string ⟨#[68, 68]⟩, .string ⟨#[68]⟩]) (t := 9) 1 rfl))⟩) (fun hHeld => ?_)
          clear hK K
          refine wpAnyH_more (S2 := fun w' => ((w'.cell? ⟨A, 0, none⟩ = some (.int .i64 x0)) ∧ w'.cell? ⟨bD, j2, none⟩ = some (.string D)) ∧ w'.cell? ⟨bM, j1, none⟩ = some (.string M)) (fun _ h => h.1) _ _ _ _ ?_
          have hHeld2 : ((V2.cell? ⟨A, 0, none⟩ = some (.int .i64 x0)) ∧ V2.cell? ⟨bD, j2, none⟩ = some (.string D)) ∧ V2.cell? ⟨bM, j1, none⟩ = some (.string M) := ⟨hHeld, (have HM := HM; HM.out _ _ _ (hw2.obj (x := bM) (cs := #[.string ⟨#[77, 77]⟩, .string ⟨#[77]⟩]) (t := 9) 2 rfl))⟩
          clear hHeld
          have hHeld := hHeld2
          clear hHeld2
          refine wpAnyH_take (i := 4) (oi := ⟨some 14, _, _, _, _, _⟩) (v := (.pointer (some ⟨bM, j1, none⟩))) rfl (by kernel_rfl) (by kernel_rfl) (by kernel_rfl) (fun _ _ _ h => h) (.inl ⟨by rfl, fun w hw => by dsimp only at hw; go_simp⟩) hHeld ?_
          simp only [Act.put, List.setIfInBounds_toArray, List.set_cons_zero, List.set_cons_succ]
          refine wpAnyH_take (i := 5) (oi := ⟨some 15, _, _, _, _, _⟩) (v := (.string M)) rfl (by kernel_rfl) (by kernel_rfl) (by kernel_rfl) (fun _ _ _ h => h) (.inl ⟨by rfl, fun w hw => by dsimp only at hw; go_simp⟩) hHeld ?_
          simp only [Act.put, List.setIfInBounds_toArray, List.set_cons_zero, List.set_cons_succ]
          refine wpAnyH_ready (rs := [13]) (by kernel_rfl) (by simp) ?_
          refine AllReadyH.cons (o := ⟨some 23, _, _, _, _, _⟩) rfl (fun K hK => ?_) AllReadyH.nil
          go_simp
          have hw3 := hw2.box #[.string ⟨#[89, 89, 89, 89]⟩, .string M, .string D] 9
          obtain ⟨V3, hW⟩ : ∃ W, W = V2.alloc (.cells #[.string ⟨#[89, 89, 89, 89]⟩, .string M, .string D] 9) := ⟨_, rfl⟩
          obtain ⟨bF, hB⟩ : ∃ b, b = V2.heap.size := ⟨_, rfl⟩
          rw [← hW, ← hB] at hw3 ⊢
          clear hW hB
          refine hK.out _ _ (by exact ⟨⟨cell_at (hw3.obj (x := A) (cs := #[.int .i64 x0, .int .i64 x1, .int .i64 x2]) (t := 22) 0 rfl) 0 rfl, (have HD := HD; HD.out _ _ _ (hw3.obj (x := bD) (cs := #[.string ⟨#[68, 68]⟩, .string ⟨#[68]⟩]) (t := 9) 1 rfl))⟩, (have HM := HM; HM.out _ _ _ (hw3.obj (x := bM) (cs := #[.string ⟨#[77, 77]⟩, .string ⟨#[77]⟩]) (t := 9) 2 rfl))⟩) (fun hHeld => ?_)
          clear hK K
          refine wpAnyH_take (i := 14) (oi := ⟨some 5, _, _, _, _, _⟩) (v := (.slice (some ⟨bF, 0, none⟩) 3 3)) rfl (by kernel_rfl) (by kernel_rfl) (by kernel_rfl) (fun _ _ _ h => h) (.inl ⟨by rfl, fun w hw => by dsimp only at hw; go_simp⟩) hHeld ?_
          simp only [Act.put, List.setIfInBounds_toArray, List.set_cons_zero, List.set_cons_succ]
          refine wpAnyH_done (by kernel_rfl) ?_ _
          go_wp2_with fail
          go_meet
          refine ⟨bF, M, D, rfl, ?_, hM, hD⟩
          exact hw3.reidx (fun j => if j = 0 then 0 else 3) (fun j U hj => by match j, hj with | 0, hj => simpa using hj | 1, hj => simpa using hj) (fun i j hi hj e => by simp at hi hj; split at e <;> split at e <;> omega)
    · go_simp
      have hw1 := hw0.box #[.string ⟨#[68, 68]⟩, .string ⟨#[68]⟩] 9
      obtain ⟨V1, hW⟩ : ∃ W, W = V0.alloc (.cells #[.string ⟨#[68, 68]⟩, .string ⟨#[68]⟩] 9) := ⟨_, rfl⟩
      obtain ⟨bD, hB⟩ : ∃ b, b = V0.heap.size := ⟨_, rfl⟩
      rw [← hW, ← hB] at hw1 ⊢
      clear hW hB
      refine hK.out _ _ (by exact cell_at (hw1.obj (x := A) (cs := #[.int .i64 x0, .int .i64 x1, .int .i64 x2]) (t := 22) 0 rfl) 0 rfl) (fun hHeld => ?_)
      clear hK K
      refine wpAnyH_more (S2 := fun w' => (w'.cell? ⟨A, 0, none⟩ = some (.int .i64 x0)) ∧ w'.cell? ⟨bD, j2, none⟩ = some (.string D)) (fun _ h => h.1) _ _ _ _ ?_
      have hHeld2 : (V1.cell? ⟨A, 0, none⟩ = some (.int .i64 x0)) ∧ V1.cell? ⟨bD, j2, none⟩ = some (.string D) := ⟨hHeld, (have HD := HD; HD.out _ _ _ (hw1.obj (x := bD) (cs := #[.string ⟨#[68, 68]⟩, .string ⟨#[68]⟩]) (t := 9) 1 rfl))⟩
      clear hHeld
      have hHeld := hHeld2
      clear hHeld2
      refine wpAnyH_ready (rs := [0, 3]) (by kernel_rfl) (by simp) ?_
      refine AllReadyH.cons (o := ⟨some 10, _, _, _, _, _⟩) rfl (fun K hK => ?_) (AllReadyH.cons (o := ⟨some 13, _, _, _, _, _⟩) rfl (fun K hK => ?_) AllReadyH.nil)
      · go_simp
        have hw2 := hw1.box #[.string ⟨#[77, 77]⟩, .string ⟨#[77]⟩] 9
        obtain ⟨V2, hW⟩ : ∃ W, W = V1.alloc (.cells #[.string ⟨#[77, 77]⟩, .string ⟨#[77]⟩] 9) := ⟨_, rfl⟩
        obtain ⟨bM, hB⟩ : ∃ b, b = V1.heap.size := ⟨_, rfl⟩
        rw [← hW, ← hB] at hw2 ⊢
        clear hW hB
        refine hK.out _ _ (by exact ⟨cell_at (hw2.obj (x := A) (cs := #[.int .i64 x0, .int .i64 x1, .int .i64 x2]) (t := 22) 0 rfl) 0 rfl, (have HD := HD; HD.out _ _ _ (hw2.obj (x := bD) (cs := #[.string ⟨#[68, 68]⟩, .string ⟨#[68]⟩]) (t := 9) 1 rfl))⟩) (fun hHeld => ?_)
        clear hK K
        refine wpAnyH_more (S2 := fun w' => ((w'.cell? ⟨A, 0, none⟩ = some (.int .i64 x0)) ∧ w'.cell? ⟨bD, j2, none⟩ = some (.string D)) ∧ w'.cell? ⟨bM, j1, none⟩ = some (.string M)) (fun _ h => h.1) _ _ _ _ ?_
        have hHeld2 : ((V2.cell? ⟨A, 0, none⟩ = some (.int .i64 x0)) ∧ V2.cell? ⟨bD, j2, none⟩ = some (.string D)) ∧ V2.cell? ⟨bM, j1, none⟩ = some (.string M) := ⟨hHeld, (have HM := HM; HM.out _ _ _ (hw2.obj (x := bM) (cs := #[.string ⟨#[77, 77]⟩, .string ⟨#[77]⟩]) (t := 9) 2 rfl))⟩
        clear hHeld
        have hHeld := hHeld2
        clear hHeld2
        refine wpAnyH_ready (rs := [3]) (by kernel_rfl) (by simp) ?_
        refine AllReadyH.cons (o := ⟨some 13, _, _, _, _, _⟩) rfl (fun K hK => ?_) AllReadyH.nil
        go_simp
        refine (M1.out _).mono ?_
        rintro e w9 ⟨rfl, rfl⟩
        refine hK.out _ _ hHeld (fun hHeld => ?_)
        clear hK K
        refine wpAnyH_take (i := 4) (oi := ⟨some 14, _, _, _, _, _⟩) (v := (.pointer (some ⟨bM, j1, none⟩))) rfl (by kernel_rfl) (by kernel_rfl) (by kernel_rfl) (fun _ _ _ h => h) (.inl ⟨by rfl, fun w hw => by dsimp only at hw; go_simp⟩) hHeld ?_
        simp only [Act.put, List.setIfInBounds_toArray, List.set_cons_zero, List.set_cons_succ]
        refine wpAnyH_take (i := 5) (oi := ⟨some 15, _, _, _, _, _⟩) (v := (.string M)) rfl (by kernel_rfl) (by kernel_rfl) (by kernel_rfl) (fun _ _ _ h => h) (.inl ⟨by rfl, fun w hw => by dsimp only at hw; go_simp⟩) hHeld ?_
        simp only [Act.put, List.setIfInBounds_toArray, List.set_cons_zero, List.set_cons_succ]
        refine wpAnyH_ready (rs := [10]) (by kernel_rfl) (by simp) ?_
        refine AllReadyH.cons (o := ⟨some 20, _, _, _, _, _⟩) rfl (fun K hK => ?_) AllReadyH.nil
        go_simp
        refine (M2.out _).mono ?_
        rintro e w9 ⟨rfl, rfl⟩
        refine hK.out _ _ hHeld (fun hHeld => ?_)
        clear hK K
        refine wpAnyH_take (i := 11) (oi := ⟨some 21, _, _, _, _, _⟩) (v := (.pointer (some ⟨bD, j2, none⟩))) rfl (by kernel_rfl) (by kernel_rfl) (by kernel_rfl) (fun _ _ _ h => h) (.inl ⟨by rfl, fun w hw => by dsimp only at hw; go_simp⟩) hHeld ?_
        simp only [Act.put, List.setIfInBounds_toArray, List.set_cons_zero, List.set_cons_succ]
        refine wpAnyH_take (i := 12) (oi := ⟨some 22, _, _, _, _, _⟩) (v := (.string D)) rfl (by kernel_rfl) (by kernel_rfl) (by kernel_rfl) (fun _ _ _ h => h) (.inl ⟨by rfl, fun w hw => by dsimp only at hw; go_simp⟩) hHeld ?_
        simp only [Act.put, List.setIfInBounds_toArray, List.set_cons_zero, List.set_cons_succ]
        refine wpAnyH_ready (rs := [13]) (by kernel_rfl) (by simp) ?_
        refine AllReadyH.cons (o := ⟨some 23, _, _, _, _, _⟩) rfl (fun K hK => ?_) AllReadyH.nil
        go_simp
        have hw3 := hw2.box #[.string ⟨#[89, 89, 89, 89]⟩, .string M, .string D] 9
        obtain ⟨V3, hW⟩ : ∃ W, W = V2.alloc (.cells #[.string ⟨#[89, 89, 89, 89]⟩, .string M, .string D] 9) := ⟨_, rfl⟩
        obtain ⟨bF, hB⟩ : ∃ b, b = V2.heap.size := ⟨_, rfl⟩
        rw [← hW, ← hB] at hw3 ⊢
        clear hW hB
        refine hK.out _ _ (by exact ⟨⟨cell_at (hw3.obj (x := A) (cs := #[.int .i64 x0, .int .i64 x1, .int .i64 x2]) (t := 22) 0 rfl) 0 rfl, (have HD := HD; HD.out _ _ _ (hw3.obj (x := bD) (cs := #[.string ⟨#[68, 68]⟩, .string ⟨#[68]⟩]) (t := 9) 1 rfl))⟩, (have HM := HM; HM.out _ _ _ (hw3.obj (x := bM) (cs := #[.string ⟨#[77, 77]⟩, .string ⟨#[77]⟩]) (t := 9) 2 rfl))⟩) (fun hHeld => ?_)
        clear hK K
        refine wpAnyH_take (i := 14) (oi := ⟨some 5, _, _, _, _, _⟩) (v := (.slice (some ⟨bF, 0, none⟩) 3 3)) rfl (by kernel_rfl) (by kernel_rfl) (by kernel_rfl) (fun _ _ _ h => h) (.inl ⟨by rfl, fun w hw => by dsimp only at hw; go_simp⟩) hHeld ?_
        simp only [Act.put, List.setIfInBounds_toArray, List.set_cons_zero, List.set_cons_succ]
        refine wpAnyH_done (by kernel_rfl) ?_ _
        go_wp2_with fail
        go_meet
        refine ⟨bF, M, D, rfl, ?_, hM, hD⟩
        exact hw3.reidx (fun j => if j = 0 then 0 else 3) (fun j U hj => by match j, hj with | 0, hj => simpa using hj | 1, hj => simpa using hj) (fun i j hi hj e => by simp at hi hj; split at e <;> split at e <;> omega)
      · go_simp
        refine (M1.out _).mono ?_
        rintro e w9 ⟨rfl, rfl⟩
        refine hK.out _ _ hHeld (fun hHeld => ?_)
        clear hK K
        refine wpAnyH_ready (rs := [0, 10]) (by kernel_rfl) (by simp) ?_
        refine AllReadyH.cons (o := ⟨some 10, _, _, _, _, _⟩) rfl (fun K hK => ?_) (AllReadyH.cons (o := ⟨some 20, _, _, _, _, _⟩) rfl (fun K hK => ?_) AllReadyH.nil)
        · go_simp
          have hw2 := hw1.box #[.string ⟨#[77, 77]⟩, .string ⟨#[77]⟩] 9
          obtain ⟨V2, hW⟩ : ∃ W, W = V1.alloc (.cells #[.string ⟨#[77, 77]⟩, .string ⟨#[77]⟩] 9) := ⟨_, rfl⟩
          obtain ⟨bM, hB⟩ : ∃ b, b = V1.heap.size := ⟨_, rfl⟩
          rw [← hW, ← hB] at hw2 ⊢
          clear hW hB
          refine hK.out _ _ (by exact ⟨cell_at (hw2.obj (x := A) (cs := #[.int .i64 x0, .int .i64 x1, .int .i64 x2]) (t := 22) 0 rfl) 0 rfl, (have HD := HD; HD.out _ _ _ (hw2.obj (x := bD) (cs := #[.string ⟨#[68, 68]⟩, .string ⟨#[68]⟩]) (t := 9) 1 rfl))⟩) (fun hHeld => ?_)
          clear hK K
          refine wpAnyH_more (S2 := fun w' => ((w'.cell? ⟨A, 0, none⟩ = some (.int .i64 x0)) ∧ w'.cell? ⟨bD, j2, none⟩ = some (.string D)) ∧ w'.cell? ⟨bM, j1, none⟩ = some (.string M)) (fun _ h => h.1) _ _ _ _ ?_
          have hHeld2 : ((V2.cell? ⟨A, 0, none⟩ = some (.int .i64 x0)) ∧ V2.cell? ⟨bD, j2, none⟩ = some (.string D)) ∧ V2.cell? ⟨bM, j1, none⟩ = some (.string M) := ⟨hHeld, (have HM := HM; HM.out _ _ _ (hw2.obj (x := bM) (cs := #[.string ⟨#[77, 77]⟩, .string ⟨#[77]⟩]) (t := 9) 2 rfl))⟩
          clear hHeld
          have hHeld := hHeld2
          clear hHeld2
          refine wpAnyH_take (i := 4) (oi := ⟨some 14, _, _, _, _, _⟩) (v := (.pointer (some ⟨bM, j1, none⟩))) rfl (by kernel_rfl) (by kernel_rfl) (by kernel_rfl) (fun _ _ _ h => h) (.inl ⟨by rfl, fun w hw => by dsimp only at hw; go_simp⟩) hHeld ?_
          simp only [Act.put, List.setIfInBounds_toArray, List.set_cons_zero, List.set_cons_succ]
          refine wpAnyH_take (i := 5) (oi := ⟨some 15, _, _, _, _, _⟩) (v := (.string M)) rfl (by kernel_rfl) (by kernel_rfl) (by kernel_rfl) (fun _ _ _ h => h) (.inl ⟨by rfl, fun w hw => by dsimp only at hw; go_simp⟩) hHeld ?_
          simp only [Act.put, List.setIfInBounds_toArray, List.set_cons_zero, List.set_cons_succ]
          refine wpAnyH_ready (rs := [10]) (by kernel_rfl) (by simp) ?_
          refine AllReadyH.cons (o := ⟨some 20, _, _, _, _, _⟩) rfl (fun K hK => ?_) AllReadyH.nil
          go_simp
          refine (M2.out _).mono ?_
          rintro e w9 ⟨rfl, rfl⟩
          refine hK.out _ _ hHeld (fun hHeld => ?_)
          clear hK K
          refine wpAnyH_take (i := 11) (oi := ⟨some 21, _, _, _, _, _⟩) (v := (.pointer (some ⟨bD, j2, none⟩))) rfl (by kernel_rfl) (by kernel_rfl) (by kernel_rfl) (fun _ _ _ h => h) (.inl ⟨by rfl, fun w hw => by dsimp only at hw; go_simp⟩) hHeld ?_
          simp only [Act.put, List.setIfInBounds_toArray, List.set_cons_zero, List.set_cons_succ]
          refine wpAnyH_take (i := 12) (oi := ⟨some 22, _, _, _, _, _⟩) (v := (.string D)) rfl (by kernel_rfl) (by kernel_rfl) (by kernel_rfl) (fun _ _ _ h => h) (.inl ⟨by rfl, fun w hw => by dsimp only at hw; go_simp⟩) hHeld ?_
          simp only [Act.put, List.setIfInBounds_toArray, List.set_cons_zero, List.set_cons_succ]
          refine wpAnyH_ready (rs := [13]) (by kernel_rfl) (by simp) ?_
          refine AllReadyH.cons (o := ⟨some 23, _, _, _, _, _⟩) rfl (fun K hK => ?_) AllReadyH.nil
          go_simp
          have hw3 := hw2.box #[.string ⟨#[89, 89, 89, 89]⟩, .string M, .string D] 9
          obtain ⟨V3, hW⟩ : ∃ W, W = V2.alloc (.cells #[.string ⟨#[89, 89, 89, 89]⟩, .string M, .string D] 9) := ⟨_, rfl⟩
          obtain ⟨bF, hB⟩ : ∃ b, b = V2.heap.size := ⟨_, rfl⟩
          rw [← hW, ← hB] at hw3 ⊢
          clear hW hB
          refine hK.out _ _ (by exact ⟨⟨cell_at (hw3.obj (x := A) (cs := #[.int .i64 x0, .int .i64 x1, .int .i64 x2]) (t := 22) 0 rfl) 0 rfl, (have HD := HD; HD.out _ _ _ (hw3.obj (x := bD) (cs := #[.string ⟨#[68, 68]⟩, .string ⟨#[68]⟩]) (t := 9) 1 rfl))⟩, (have HM := HM; HM.out _ _ _ (hw3.obj (x := bM) (cs := #[.string ⟨#[77, 77]⟩, .string ⟨#[77]⟩]) (t := 9) 2 rfl))⟩) (fun hHeld => ?_)
          clear hK K
          refine wpAnyH_take (i := 14) (oi := ⟨some 5, _, _, _, _, _⟩) (v := (.slice (some ⟨bF, 0, none⟩) 3 3)) rfl (by kernel_rfl) (by kernel_rfl) (by kernel_rfl) (fun _ _ _ h => h) (.inl ⟨by rfl, fun w hw => by dsimp only at hw; go_simp⟩) hHeld ?_
          simp only [Act.put, List.setIfInBounds_toArray, List.set_cons_zero, List.set_cons_succ]
          refine wpAnyH_done (by kernel_rfl) ?_ _
          go_wp2_with fail
          go_meet
          refine ⟨bF, M, D, rfl, ?_, hM, hD⟩
          exact hw3.reidx (fun j => if j = 0 then 0 else 3) (fun j U hj => by match j, hj with | 0, hj => simpa using hj | 1, hj => simpa using hj) (fun i j hi hj e => by simp at hi hj; split at e <;> split at e <;> omega)
        · go_simp
          refine (M2.out _).mono ?_
          rintro e w9 ⟨rfl, rfl⟩
          refine hK.out _ _ hHeld (fun hHeld => ?_)
          clear hK K
          refine wpAnyH_take (i := 11) (oi := ⟨some 21, _, _, _, _, _⟩) (v := (.pointer (some ⟨bD, j2, none⟩))) rfl (by kernel_rfl) (by kernel_rfl) (by kernel_rfl) (fun _ _ _ h => h) (.inl ⟨by rfl, fun w hw => by dsimp only at hw; go_simp⟩) hHeld ?_
          simp only [Act.put, List.setIfInBounds_toArray, List.set_cons_zero, List.set_cons_succ]
          refine wpAnyH_take (i := 12) (oi := ⟨some 22, _, _, _, _, _⟩) (v := (.string D)) rfl (by kernel_rfl) (by kernel_rfl) (by kernel_rfl) (fun _ _ _ h => h) (.inl ⟨by rfl, fun w hw => by dsimp only at hw; go_simp⟩) hHeld ?_
          simp only [Act.put, List.setIfInBounds_toArray, List.set_cons_zero, List.set_cons_succ]
          refine wpAnyH_ready (rs := [0]) (by kernel_rfl) (by simp) ?_
          refine AllReadyH.cons (o := ⟨some 10, _, _, _, _, _⟩) rfl (fun K hK => ?_) AllReadyH.nil
          go_simp
          have hw2 := hw1.box #[.string ⟨#[77, 77]⟩, .string ⟨#[77]⟩] 9
          obtain ⟨V2, hW⟩ : ∃ W, W = V1.alloc (.cells #[.string ⟨#[77, 77]⟩, .string ⟨#[77]⟩] 9) := ⟨_, rfl⟩
          obtain ⟨bM, hB⟩ : ∃ b, b = V1.heap.size := ⟨_, rfl⟩
          rw [← hW, ← hB] at hw2 ⊢
          clear hW hB
          refine hK.out _ _ (by exact ⟨cell_at (hw2.obj (x := A) (cs := #[.int .i64 x0, .int .i64 x1, .int .i64 x2]) (t := 22) 0 rfl) 0 rfl, (have HD := HD; HD.out _ _ _ (hw2.obj (x := bD) (cs := #[.string ⟨#[68, 68]⟩, .string ⟨#[68]⟩]) (t := 9) 1 rfl))⟩) (fun hHeld => ?_)
          clear hK K
          refine wpAnyH_more (S2 := fun w' => ((w'.cell? ⟨A, 0, none⟩ = some (.int .i64 x0)) ∧ w'.cell? ⟨bD, j2, none⟩ = some (.string D)) ∧ w'.cell? ⟨bM, j1, none⟩ = some (.string M)) (fun _ h => h.1) _ _ _ _ ?_
          have hHeld2 : ((V2.cell? ⟨A, 0, none⟩ = some (.int .i64 x0)) ∧ V2.cell? ⟨bD, j2, none⟩ = some (.string D)) ∧ V2.cell? ⟨bM, j1, none⟩ = some (.string M) := ⟨hHeld, (have HM := HM; HM.out _ _ _ (hw2.obj (x := bM) (cs := #[.string ⟨#[77, 77]⟩, .string ⟨#[77]⟩]) (t := 9) 2 rfl))⟩
          clear hHeld
          have hHeld := hHeld2
          clear hHeld2
          refine wpAnyH_take (i := 4) (oi := ⟨some 14, _, _, _, _, _⟩) (v := (.pointer (some ⟨bM, j1, none⟩))) rfl (by kernel_rfl) (by kernel_rfl) (by kernel_rfl) (fun _ _ _ h => h) (.inl ⟨by rfl, fun w hw => by dsimp only at hw; go_simp⟩) hHeld ?_
          simp only [Act.put, List.setIfInBounds_toArray, List.set_cons_zero, List.set_cons_succ]
          refine wpAnyH_take (i := 5) (oi := ⟨some 15, _, _, _, _, _⟩) (v := (.string M)) rfl (by kernel_rfl) (by kernel_rfl) (by kernel_rfl) (fun _ _ _ h => h) (.inl ⟨by rfl, fun w hw => by dsimp only at hw; go_simp⟩) hHeld ?_
          simp only [Act.put, List.setIfInBounds_toArray, List.set_cons_zero, List.set_cons_succ]
          refine wpAnyH_ready (rs := [13]) (by kernel_rfl) (by simp) ?_
          refine AllReadyH.cons (o := ⟨some 23, _, _, _, _, _⟩) rfl (fun K hK => ?_) AllReadyH.nil
          go_simp
          have hw3 := hw2.box #[.string ⟨#[89, 89, 89, 89]⟩, .string M, .string D] 9
          obtain ⟨V3, hW⟩ : ∃ W, W = V2.alloc (.cells #[.string ⟨#[89, 89, 89, 89]⟩, .string M, .string D] 9) := ⟨_, rfl⟩
          obtain ⟨bF, hB⟩ : ∃ b, b = V2.heap.size := ⟨_, rfl⟩
          rw [← hW, ← hB] at hw3 ⊢
          clear hW hB
          refine hK.out _ _ (by exact ⟨⟨cell_at (hw3.obj (x := A) (cs := #[.int .i64 x0, .int .i64 x1, .int .i64 x2]) (t := 22) 0 rfl) 0 rfl, (have HD := HD; HD.out _ _ _ (hw3.obj (x := bD) (cs := #[.string ⟨#[68, 68]⟩, .string ⟨#[68]⟩]) (t := 9) 1 rfl))⟩, (have HM := HM; HM.out _ _ _ (hw3.obj (x := bM) (cs := #[.string ⟨#[77, 77]⟩, .string ⟨#[77]⟩]) (t := 9) 2 rfl))⟩) (fun hHeld => ?_)
          clear hK K
          refine wpAnyH_take (i := 14) (oi := ⟨some 5, _, _, _, _, _⟩) (v := (.slice (some ⟨bF, 0, none⟩) 3 3)) rfl (by kernel_rfl) (by kernel_rfl) (by kernel_rfl) (fun _ _ _ h => h) (.inl ⟨by rfl, fun w hw => by dsimp only at hw; go_simp⟩) hHeld ?_
          simp only [Act.put, List.setIfInBounds_toArray, List.set_cons_zero, List.set_cons_succ]
          refine wpAnyH_done (by kernel_rfl) ?_ _
          go_wp2_with fail
          go_meet
          refine ⟨bF, M, D, rfl, ?_, hM, hD⟩
          exact hw3.reidx (fun j => if j = 0 then 0 else 3) (fun j U hj => by match j, hj with | 0, hj => simpa using hj | 1, hj => simpa using hj) (fun i j hi hj e => by simp at hi hj; split at e <;> split at e <;> omega)
  case rest =>
    obtain ⟨F, M, D, rfl, hO, hM, hD⟩ := hcut
    go_upto_region 3 with fail
    have hB := (((((((hO).box #[.int .i64 0, .int .i64 1, .int .i64 2] 3).box #[.int .i64 0, .int .i64 2, .int .i64 1] 3).box #[.int .i64 1, .int .i64 0, .int .i64 2] 3).box #[.int .i64 1, .int .i64 2, .int .i64 0] 3).box #[.int .i64 2, .int .i64 0, .int .i64 1] 3).box #[.int .i64 2, .int .i64 1, .int .i64 0] 3).box #[.slice (some ⟨wc.heap.size, 0, none⟩) 3 3, .slice (some ⟨wc.heap.size + 1, 0, none⟩) 3 3, .slice (some ⟨wc.heap.size + 1 + 1, 0, none⟩) 3 3, .slice (some ⟨wc.heap.size + 1 + 1 + 1, 0, none⟩) 3 3, .slice (some ⟨wc.heap.size + 1 + 1 + 1 + 1, 0, none⟩) 3 3, .slice (some ⟨wc.heap.size + 1 + 1 + 1 + 1 + 1, 0, none⟩) 3 3] 25
    simp only [World.size_alloc] at hB
    obtain ⟨V, hV⟩ : ∃ V, V = (((((((wc).alloc (.cells #[.int .i64 0, .int .i64 1, .int .i64 2] 3)).alloc (.cells #[.int .i64 0, .int .i64 2, .int .i64 1] 3)).alloc (.cells #[.int .i64 1, .int .i64 0, .int .i64 2] 3)).alloc (.cells #[.int .i64 1, .int .i64 2, .int .i64 0] 3)).alloc (.cells #[.int .i64 2, .int .i64 0, .int .i64 1] 3)).alloc (.cells #[.int .i64 2, .int .i64 1, .int .i64 0] 3)).alloc (.cells #[.slice (some ⟨wc.heap.size, 0, none⟩) 3 3, .slice (some ⟨wc.heap.size + 1, 0, none⟩) 3 3, .slice (some ⟨wc.heap.size + 1 + 1, 0, none⟩) 3 3, .slice (some ⟨wc.heap.size + 1 + 1 + 1, 0, none⟩) 3 3, .slice (some ⟨wc.heap.size + 1 + 1 + 1 + 1, 0, none⟩) 3 3, .slice (some ⟨wc.heap.size + 1 + 1 + 1 + 1 + 1, 0, none⟩) 3 3] 25) := ⟨_, rfl⟩
    obtain ⟨N, hN⟩ : ∃ n, n = wc.heap.size := ⟨_, rfl⟩
    rw [← hV, ← hN] at hB
    rw [← hV, ← hN]
    clear hV hN hO
    go_cut [7] (fun s wx => ∃ (O o0 o1 o2 : Nat), s = .slice (some ⟨O, 0, none⟩) 3 3 ∧ Own w [cellT A #[.int .i64 x0, .int .i64 x1, .int .i64 x2] 22, cellT F #[.string ⟨#[89, 89, 89, 89]⟩, .string M, .string D] 9, cellT O #[.int .i64 o0, .int .i64 o1, .int .i64 o2] 3] wx ∧ Hid (∃ k, k < 6 ∧ (o0, o1, o2) = ordL k))
    case first =>
      have r6 : x1 % 6 = 0 ∨ x1 % 6 = 1 ∨ x1 % 6 = 2 ∨ x1 % 6 = 3 ∨ x1 % 6 = 4 ∨ x1 % 6 = 5 := by omega
      have m1 := fun w => mod_any x1 6 w (by omega) (by omega) n1.1 n1.2
      have c1 : V.cell? ⟨A, 1, none⟩ = some (.int .i64 x1) := cell_at (hB.obj (x := A) (cs := #[.int .i64 x0, .int .i64 x1, .int .i64 x2]) (t := 22) 0 rfl) 1 rfl
      have d0 : V.cell? ⟨N + 1 + 1 + 1 + 1 + 1 + 1, 0, none⟩ = some (.slice (some ⟨N, 0, none⟩) 3 3) := cell_at (hB.obj (x := N + 1 + 1 + 1 + 1 + 1 + 1) (cs := #[.slice (some ⟨N, 0, none⟩) 3 3, .slice (some ⟨N + 1, 0, none⟩) 3 3, .slice (some ⟨N + 1 + 1, 0, none⟩) 3 3, .slice (some ⟨N + 1 + 1 + 1, 0, none⟩) 3 3, .slice (some ⟨N + 1 + 1 + 1 + 1, 0, none⟩) 3 3, .slice (some ⟨N + 1 + 1 + 1 + 1 + 1, 0, none⟩) 3 3]) (t := 25) 8 rfl) 0 rfl
      have d1 : V.cell? ⟨N + 1 + 1 + 1 + 1 + 1 + 1, 1, none⟩ = some (.slice (some ⟨N + 1, 0, none⟩) 3 3) := cell_at (hB.obj (x := N + 1 + 1 + 1 + 1 + 1 + 1) (cs := #[.slice (some ⟨N, 0, none⟩) 3 3, .slice (some ⟨N + 1, 0, none⟩) 3 3, .slice (some ⟨N + 1 + 1, 0, none⟩) 3 3, .slice (some ⟨N + 1 + 1 + 1, 0, none⟩) 3 3, .slice (some ⟨N + 1 + 1 + 1 + 1, 0, none⟩) 3 3, .slice (some ⟨N + 1 + 1 + 1 + 1 + 1, 0, none⟩) 3 3]) (t := 25) 8 rfl) 1 rfl
      have d2 : V.cell? ⟨N + 1 + 1 + 1 + 1 + 1 + 1, 2, none⟩ = some (.slice (some ⟨N + 1 + 1, 0, none⟩) 3 3) := cell_at (hB.obj (x := N + 1 + 1 + 1 + 1 + 1 + 1) (cs := #[.slice (some ⟨N, 0, none⟩) 3 3, .slice (some ⟨N + 1, 0, none⟩) 3 3, .slice (some ⟨N + 1 + 1, 0, none⟩) 3 3, .slice (some ⟨N + 1 + 1 + 1, 0, none⟩) 3 3, .slice (some ⟨N + 1 + 1 + 1 + 1, 0, none⟩) 3 3, .slice (some ⟨N + 1 + 1 + 1 + 1 + 1, 0, none⟩) 3 3]) (t := 25) 8 rfl) 2 rfl
      have d3 : V.cell? ⟨N + 1 + 1 + 1 + 1 + 1 + 1, 3, none⟩ = some (.slice (some ⟨N + 1 + 1 + 1, 0, none⟩) 3 3) := cell_at (hB.obj (x := N + 1 + 1 + 1 + 1 + 1 + 1) (cs := #[.slice (some ⟨N, 0, none⟩) 3 3, .slice (some ⟨N + 1, 0, none⟩) 3 3, .slice (some ⟨N + 1 + 1, 0, none⟩) 3 3, .slice (some ⟨N + 1 + 1 + 1, 0, none⟩) 3 3, .slice (some ⟨N + 1 + 1 + 1 + 1, 0, none⟩) 3 3, .slice (some ⟨N + 1 + 1 + 1 + 1 + 1, 0, none⟩) 3 3]) (t := 25) 8 rfl) 3 rfl
      have d4 : V.cell? ⟨N + 1 + 1 + 1 + 1 + 1 + 1, 4, none⟩ = some (.slice (some ⟨N + 1 + 1 + 1 + 1, 0, none⟩) 3 3) := cell_at (hB.obj (x := N + 1 + 1 + 1 + 1 + 1 + 1) (cs := #[.slice (some ⟨N, 0, none⟩) 3 3, .slice (some ⟨N + 1, 0, none⟩) 3 3, .slice (some ⟨N + 1 + 1, 0, none⟩) 3 3, .slice (some ⟨N + 1 + 1 + 1, 0, none⟩) 3 3, .slice (some ⟨N + 1 + 1 + 1 + 1, 0, none⟩) 3 3, .slice (some ⟨N + 1 + 1 + 1 + 1 + 1, 0, none⟩) 3 3]) (t := 25) 8 rfl) 4 rfl
      have d5 : V.cell? ⟨N + 1 + 1 + 1 + 1 + 1 + 1, 5, none⟩ = some (.slice (some ⟨N + 1 + 1 + 1 + 1 + 1, 0, none⟩) 3 3) := cell_at (hB.obj (x := N + 1 + 1 + 1 + 1 + 1 + 1) (cs := #[.slice (some ⟨N, 0, none⟩) 3 3, .slice (some ⟨N + 1, 0, none⟩) 3 3, .slice (some ⟨N + 1 + 1, 0, none⟩) 3 3, .slice (some ⟨N + 1 + 1 + 1, 0, none⟩) 3 3, .slice (some ⟨N + 1 + 1 + 1 + 1, 0, none⟩) 3 3, .slice (some ⟨N + 1 + 1 + 1 + 1 + 1, 0, none⟩) 3 3]) (t := 25) 8 rfl) 5 rfl
      rcases r6 with r | r | r | r | r | r
      · rw [r] at m1
        have M1 := Lib.hid m1
        clear m1 r
        go_wp2_with fail
        refine (M1.out _).mono ?_
        rintro e w9 ⟨rfl, rfl⟩
        go_wp2_with fail
        go_meet
        refine ⟨N, 0, 1, 2, rfl, ?_, ⟨0, by omega, rfl⟩⟩
        exact hB.reidx (fun j => if j < 2 then j else 2) (fun j U hj => by match j, hj with | 0, hj => simpa using hj | 1, hj => simpa using hj | 2, hj => simpa using hj) (fun i j hi hj e => by simp at hi hj; split at e <;> split at e <;> omega)
      · rw [r] at m1
        have M1 := Lib.hid m1
        clear m1 r
        go_wp2_with fail
        refine (M1.out _).mono ?_
        rintro e w9 ⟨rfl, rfl⟩
        go_wp2_with fail
        go_meet
        refine ⟨N + 1, 0, 2, 1, rfl, ?_, ⟨1, by omega, rfl⟩⟩
        exact hB.reidx (fun j => if j < 2 then j else 3) (fun j U hj => by match j, hj with | 0, hj => simpa using hj | 1, hj => simpa using hj | 2, hj => simpa using hj) (fun i j hi hj e => by simp at hi hj; split at e <;> split at e <;> omega)
      · rw [r] at m1
        have M1 := Lib.hid m1
        clear m1 r
        go_wp2_with fail
        refine (M1.out _).mono ?_
        rintro e w9 ⟨rfl, rfl⟩
        go_wp2_with fail
        go_meet
        refine ⟨N + 1 + 1, 1, 0, 2, rfl, ?_, ⟨2, by omega, rfl⟩⟩
        exact hB.reidx (fun j => if j < 2 then j else 4) (fun j U hj => by match j, hj with | 0, hj => simpa using hj | 1, hj => simpa using hj | 2, hj => simpa using hj) (fun i j hi hj e => by simp at hi hj; split at e <;> split at e <;> omega)
      · rw [r] at m1
        have M1 := Lib.hid m1
        clear m1 r
        go_wp2_with fail
        refine (M1.out _).mono ?_
        rintro e w9 ⟨rfl, rfl⟩
        go_wp2_with fail
        go_meet
        refine ⟨N + 1 + 1 + 1, 1, 2, 0, rfl, ?_, ⟨3, by omega, rfl⟩⟩
        exact hB.reidx (fun j => if j < 2 then j else 5) (fun j U hj => by match j, hj with | 0, hj => simpa using hj | 1, hj => simpa using hj | 2, hj => simpa using hj) (fun i j hi hj e => by simp at hi hj; split at e <;> split at e <;> omega)
      · rw [r] at m1
        have M1 := Lib.hid m1
        clear m1 r
        go_wp2_with fail
        refine (M1.out _).mono ?_
        rintro e w9 ⟨rfl, rfl⟩
        go_wp2_with fail
        go_meet
        refine ⟨N + 1 + 1 + 1 + 1, 2, 0, 1, rfl, ?_, ⟨4, by omega, rfl⟩⟩
        exact hB.reidx (fun j => if j < 2 then j else 6) (fun j U hj => by match j, hj with | 0, hj => simpa using hj | 1, hj => simpa using hj | 2, hj => simpa using hj) (fun i j hi hj e => by simp at hi hj; split at e <;> split at e <;> omega)
      · rw [r] at m1
        have M1 := Lib.hid m1
        clear m1 r
        go_wp2_with fail
        refine (M1.out _).mono ?_
        rintro e w9 ⟨rfl, rfl⟩
        go_wp2_with fail
        go_meet
        refine ⟨N + 1 + 1 + 1 + 1 + 1, 2, 1, 0, rfl, ?_, ⟨5, by omega, rfl⟩⟩
        exact hB.reidx (fun j => if j < 2 then j else 7) (fun j U hj => by match j, hj with | 0, hj => simpa using hj | 1, hj => simpa using hj | 2, hj => simpa using hj) (fun i j hi hj e => by simp at hi hj; split at e <;> split at e <;> omega)
    case rest =>
      clear hB
      obtain ⟨O, o0, o1, o2, rfl, hO, hk⟩ := hcut
      go_upto_region 4 with fail
      have c2 : wc.cell? ⟨A, 2, none⟩ = some (.int .i64 x2) := cell_at (hO.obj (x := A) (cs := #[.int .i64 x0, .int .i64 x1, .int .i64 x2]) (t := 22) 0 rfl) 2 rfl
      go_cut [8] (fun s wx => ∃ (T : ByteArray), s = .string T ∧ T.size ≤ 4 ∧ Own w [cellT A #[.int .i64 x0, .int .i64 x1, .int .i64 x2] 22, cellT F #[.string ⟨#[89, 89, 89, 89]⟩, .string M, .string D] 9, cellT O #[.int .i64 o0, .int .i64 o1, .int .i64 o2] 3] wx ∧ Hid (∃ k, k < 8 ∧ T.data.toList = sepL k))
      case first =>
        have r8 : x2 % 8 = 0 ∨ x2 % 8 = 1 ∨ x2 % 8 = 2 ∨ x2 % 8 = 3 ∨ x2 % 8 = 4 ∨ x2 % 8 = 5 ∨ x2 % 8 = 6 ∨ x2 % 8 = 7 := by omega
        have m1 := fun w => mod_any x2 8 w (by omega) (by omega) n2.1 n2.2
        have hB := hO.box #[.string ⟨#[45]⟩, .string ⟨#[46]⟩, .string ⟨#[47]⟩, .string ⟨#[32]⟩, .string ⟨#[44, 32]⟩, .string ⟨#[120]⟩, .string ⟨#[32, 111, 102, 32]⟩, .string ⟨#[]⟩] 9
        have c3 : (wc.alloc (.cells #[.string ⟨#[45]⟩, .string ⟨#[46]⟩, .string ⟨#[47]⟩, .string ⟨#[32]⟩, .string ⟨#[44, 32]⟩, .string ⟨#[120]⟩, .string ⟨#[32, 111, 102, 32]⟩, .string ⟨#[]⟩] 9)).cell? ⟨A, 2, none⟩ = some (.int .i64 x2) := ck_alloc _ c2
        rcases r8 with r | r | r | r | r | r | r | r
        · rw [r] at m1
          have M1 := Lib.hid m1
          clear m1 r
          go_wp2_with fail
          refine (M1.out _).mono ?_
          rintro e w9 ⟨rfl, rfl⟩
          go_wp2_with fail
          go_meet
          exact ⟨⟨#[45]⟩, rfl, by decide, hO.still ((Frm.refl _ _).alloc _), ⟨0, by omega, rfl⟩⟩
        · rw [r] at m1
          have M1 := Lib.hid m1
          clear m1 r
          go_wp2_with fail
          refine (M1.out _).mono ?_
          rintro e w9 ⟨rfl, rfl⟩
          go_wp2_with fail
          go_meet
          exact ⟨⟨#[46]⟩, rfl, by decide, hO.still ((Frm.refl _ _).alloc _), ⟨1, by omega, rfl⟩⟩
        · rw [r] at m1
          have M1 := Lib.hid m1
          clear m1 r
          go_wp2_with fail
          refine (M1.out _).mono ?_
          rintro e w9 ⟨rfl, rfl⟩
          go_wp2_with fail
          go_meet
          exact ⟨⟨#[47]⟩, rfl, by decide, hO.still ((Frm.refl _ _).alloc _), ⟨2, by omega, rfl⟩⟩
        · rw [r] at m1
          have M1 := Lib.hid m1
          clear m1 r
          go_wp2_with fail
          refine (M1.out _).mono ?_
          rintro e w9 ⟨rfl, rfl⟩
          go_wp2_with fail
          go_meet
          exact ⟨⟨#[32]⟩, rfl, by decide, hO.still ((Frm.refl _ _).alloc _), ⟨3, by omega, rfl⟩⟩
        · rw [r] at m1
          have M1 := Lib.hid m1
          clear m1 r
          go_wp2_with fail
          refine (M1.out _).mono ?_
          rintro e w9 ⟨rfl, rfl⟩
          go_wp2_with fail
          go_meet
          exact ⟨⟨#[44, 32]⟩, rfl, by decide, hO.still ((Frm.refl _ _).alloc _), ⟨4, by omega, rfl⟩⟩
        · rw [r] at m1
          have M1 := Lib.hid m1
          clear m1 r
          go_wp2_with fail
          refine (M1.out _).mono ?_
          rintro e w9 ⟨rfl, rfl⟩
          go_wp2_with fail
          go_meet
          exact ⟨⟨#[120]⟩, rfl, by decide, hO.still ((Frm.refl _ _).alloc _), ⟨5, by omega, rfl⟩⟩
        · rw [r] at m1
          have M1 := Lib.hid m1
          clear m1 r
          go_wp2_with fail
          refine (M1.out _).mono ?_
          rintro e w9 ⟨rfl, rfl⟩
          go_wp2_with fail
          go_meet
          exact ⟨⟨#[32, 111, 102, 32]⟩, rfl, by decide, hO.still ((Frm.refl _ _).alloc _), ⟨6, by omega, rfl⟩⟩
        · rw [r] at m1
          have M1 := Lib.hid m1
          clear m1 r
          go_wp2_with fail
          refine (M1.out _).mono ?_
          rintro e w9 ⟨rfl, rfl⟩
          go_wp2_with fail
          go_meet
          exact ⟨⟨#[]⟩, rfl, by decide, hO.still ((Frm.refl _ _).alloc _), ⟨7, by omega, rfl⟩⟩
      case rest =>
        clear c2 hO
        obtain ⟨T, rfl, hT, hO, hs⟩ := hcut
        obtain ⟨k, hk6, hk⟩ := hk.out
        have ho3 : o0 < 3 ∧ o1 < 3 ∧ o2 < 3 := by
          have key : ∀ k : Fin 6, (ordL k.1).1 < 3 ∧ (ordL k.1).2.1 < 3 ∧ (ordL k.1).2.2 < 3 := by decide
          have := key ⟨k, hk6⟩
          rw [← hk] at this
          exact this
        have hMs : M.size ≤ 4 := by rcases hM.out with rfl | rfl <;> decide
        have hDs : D.size ≤ 4 := by rcases hD.out with rfl | rfl <;> decide
        obtain ⟨G0, s0, g0, p0⟩ := pick3 M D o0 ho3.1 hMs hDs
        obtain ⟨G1, s1, g1, p1⟩ := pick3 M D o1 ho3.2.1 hMs hDs
        obtain ⟨G2, s2, g2, p2⟩ := pick3 M D o2 ho3.2.2 hMs hDs
        have hF := hO.obj (x := F) (cs := #[.string ⟨#[89, 89, 89, 89]⟩, .string M, .string D]) (t := 9) 1 rfl
        have hOo := hO.obj (x := O) (cs := #[.int .i64 o0, .int .i64 o1, .int .i64 o2]) (t := 3) 2 rfl
        have i0 : wc.cell? ⟨O, 0, none⟩ = some (.int .i64 o0) := cell_at hOo 0 rfl
        have i1 : wc.cell? ⟨O, 1, none⟩ = some (.int .i64 o1) := cell_at hOo 1 rfl
        have i2 : wc.cell? ⟨O, 2, none⟩ = some (.int .i64 o2) := cell_at hOo 2 rfl
        have j0 := p0 wc F 9 hF
        have j1 := p1 wc F 9 hF
        have j2 := p2 wc F 9 hF
        have l0 : ¬ (3 : Int) ≤ (o0 : Int) := by omega
        have l1 : ¬ (3 : Int) ≤ (o1 : Int) := by omega
        have l2 : ¬ (3 : Int) ≤ (o2 : Int) := by omega
        have l0' : (o0 : Int) < 3 := by omega
        have l1' : (o1 : Int) < 3 := by omega
        have l2' : (o2 : Int) < 3 := by omega
        have hord : Hid ((o0, o1, o2) = ordL k) := hk
        have Hs := hs
        have G0' := Lib.hid g0
        have G1' := Lib.hid g1
        have G2' := Lib.hid g2
        have c2 : wc.cell? ⟨A, 2, none⟩ = some (.int .i64 x2) := cell_at (hO.obj (x := A) (cs := #[.int .i64 x0, .int .i64 x1, .int .i64 x2]) (t := 22) 0 rfl) 2 rfl
        have fz := hO.frm
        clear hk ho3 p0 p1 p2 g0 g1 g2 hF hOo
        cases b
        · by_cases h0 : T.toList = []
          · have t1 : (T.toList == []) = true := by rw [h0]; rfl
            have t2 : T.toList.isEmpty = true := by rw [h0]; rfl
            have h1 := Lib.hid h0
            clear h0
            go_wp2_with fail
            go_quiet (fail)
            go_wp2_with fail
            go_ret
            refine ⟨⟨_, rfl, ?_, ?_⟩, fz.drewN _⟩
            · simp only [ByteArray.size_append]
              have z : (⟨#[95]⟩ : ByteArray).size = 1 := rfl
              omega
            · obtain ⟨m, hm, hT2⟩ := Hs.out
              have hr := lay_right k hk6 m hm M.data.toList (by rcases hM.out with rfl | rfl <;> simp [fMM, fM]) D.data.toList (by rcases hD.out with rfl | rfl <;> simp [fDD, fD])
              rw [← hT2, ← hord.out] at hr
              unfold layT at hr
              rw [← G0'.out, ← G1'.out, ← G2'.out] at hr
              rw [if_pos (by rw [← toList_data]; exact h1.out)] at hr
              simpa [List.append_assoc] using hr
          · have t1 : (T.toList == []) = false := by rw [beq_eq_false_iff_ne]; exact h0
            have t2 : T.toList.isEmpty = false := by simpa using h0
            have h1 := Lib.hid h0
            clear h0
            go_wp2_with fail
            go_quiet (fail)
            go_wp2_with fail
            go_ret
            refine ⟨⟨_, rfl, ?_, ?_⟩, fz.drewN _⟩
            · simp only [ByteArray.size_append]
              have z : (⟨#[95]⟩ : ByteArray).size = 1 := rfl
              omega
            · obtain ⟨m, hm, hT2⟩ := Hs.out
              have hr := lay_right k hk6 m hm M.data.toList (by rcases hM.out with rfl | rfl <;> simp [fMM, fM]) D.data.toList (by rcases hD.out with rfl | rfl <;> simp [fDD, fD])
              rw [← hT2, ← hord.out] at hr
              unfold layT at hr
              rw [← G0'.out, ← G1'.out, ← G2'.out] at hr
              rw [if_neg (by rw [← toList_data]; exact h1.out)] at hr
              simpa [List.append_assoc] using hr
        · have t1 : x2.tdiv 8 = if 0 ≤ x2 then x2 / 8 else -((-x2) / 8) := by
            split
            · exact Int.tdiv_eq_ediv_of_nonneg (by omega)
            · rw [← Int.tdiv_eq_ediv_of_nonneg (show 0 ≤ -x2 by omega), Int.neg_tdiv, Int.neg_neg]
          have t2 : -9223372036854775808 ≤ x2.tdiv 8 ∧ x2.tdiv 8 ≤ 9223372036854775807 := by rw [t1]; split <;> omega
          have m1 := fun w => mod_any (x2.tdiv 8) 9 w (by omega) (by omega) t2.1 t2.2
          have wq : IntKind.i64.wrap (x2.tdiv 8) = x2.tdiv 8 := IntWalk.i64_in _ t2
          have r9 : x2.tdiv 8 % 9 = 0 ∨ x2.tdiv 8 % 9 = 1 ∨ x2.tdiv 8 % 9 = 2 ∨ x2.tdiv 8 % 9 = 3 ∨ x2.tdiv 8 % 9 = 4 ∨ x2.tdiv 8 % 9 = 5 ∨ x2.tdiv 8 % 9 = 6 ∨ x2.tdiv 8 % 9 = 7 ∨ x2.tdiv 8 % 9 = 8 := by omega
          have z0 : (⟨#[68]⟩ : ByteArray).size = 1 := rfl
          have z1 : (⟨#[89]⟩ : ByteArray).size = 1 := rfl
          have z2 : (⟨#[49]⟩ : ByteArray).size = 1 := rfl
          have z3 : (⟨#[10]⟩ : ByteArray).size = 1 := rfl
          have z4 : (⟨#[100, 97, 121, 58, 32]⟩ : ByteArray).size = 5 := rfl
          have z5 : (⟨#[46, 46, 46, 46, 46, 46, 46, 46, 46, 46, 46, 46, 46, 46, 46, 46, 46, 46, 46, 46, 46, 46, 46, 46, 46, 46, 46, 46, 46, 46, 46, 46, 46, 46, 46, 46]⟩ : ByteArray).size = 36 := rfl
          clear t1
          cases he : T.toList.isEmpty
          all_goals
            rcases r9 with r | r | r | r | r | r | r | r | r
            · rw [r] at m1
              have M1 := Lib.hid m1
              clear m1 r
              go_wp2_with fail
              go_quiet (fail)
              go_wp2_with fail
              refine (M1.out _).mono ?_
              rintro e w9 ⟨rfl, rfl⟩
              go_wp2_with fail
              go_ret
              refine ⟨⟨_, rfl, ?_, fun h => Bool.noConfusion h⟩, fz.drewN _⟩
              simp only [ByteArray.size_append]
              omega
            · rw [r] at m1
              have M1 := Lib.hid m1
              clear m1 r
              go_wp2_with fail
              go_quiet (fail)
              go_wp2_with fail
              refine (M1.out _).mono ?_
              rintro e w9 ⟨rfl, rfl⟩
              go_wp2_with fail
              go_ret
              refine ⟨⟨_, rfl, ?_, fun h => Bool.noConfusion h⟩, fz.drewN _⟩
              simp only [ByteArray.size_append]
              omega
            · rw [r] at m1
              have M1 := Lib.hid m1
              clear m1 r
              go_wp2_with fail
              go_quiet (fail)
              go_wp2_with fail
              refine (M1.out _).mono ?_
              rintro e w9 ⟨rfl, rfl⟩
              go_wp2_with fail
              go_ret
              refine ⟨⟨_, rfl, ?_, fun h => Bool.noConfusion h⟩, fz.drewN _⟩
              simp only [ByteArray.size_append]
              omega
            · rw [r] at m1
              have M1 := Lib.hid m1
              clear m1 r
              go_wp2_with fail
              go_quiet (fail)
              go_wp2_with fail
              refine (M1.out _).mono ?_
              rintro e w9 ⟨rfl, rfl⟩
              go_wp2_with fail
              go_quiet (fail)
              go_wp2_with fail
              go_ret
              refine ⟨⟨_, rfl, ?_, fun h => Bool.noConfusion h⟩, (fz.drewN _).drewN _⟩
              simp only [ByteArray.size_append]
              omega
            · rw [r] at m1
              have M1 := Lib.hid m1
              clear m1 r
              go_wp2_with fail
              go_quiet (fail)
              go_wp2_with fail
              refine (M1.out _).mono ?_
              rintro e w9 ⟨rfl, rfl⟩
              go_wp2_with fail
              go_ret
              refine ⟨⟨_, rfl, ?_, fun h => Bool.noConfusion h⟩, fz.drewN _⟩
              simp only [ByteArray.size_append]
              omega
            · rw [r] at m1
              have M1 := Lib.hid m1
              clear m1 r
              go_wp2_with fail
              go_quiet (fail)
              go_wp2_with fail
              refine (M1.out _).mono ?_
              rintro e w9 ⟨rfl, rfl⟩
              go_wp2_with fail
              go_ret
              refine ⟨⟨_, rfl, ?_, fun h => Bool.noConfusion h⟩, fz.drewN _⟩
              simp only [ByteArray.size_append]
              omega
            · rw [r] at m1
              have M1 := Lib.hid m1
              clear m1 r
              go_wp2_with fail
              go_quiet (fail)
              go_wp2_with fail
              refine (M1.out _).mono ?_
              rintro e w9 ⟨rfl, rfl⟩
              go_wp2_with fail
              go_ret
              refine ⟨⟨_, rfl, ?_, fun h => Bool.noConfusion h⟩, fz.drewN _⟩
              simp only [ByteArray.size_append]
              omega
            · rw [r] at m1
              have M1 := Lib.hid m1
              clear m1 r
              go_wp2_with fail
              go_quiet (fail)
              go_wp2_with fail
              refine (M1.out _).mono ?_
              rintro e w9 ⟨rfl, rfl⟩
              go_wp2_with fail
              go_ret
              refine ⟨⟨_, rfl, ?_, fun h => Bool.noConfusion h⟩, fz.drewN _⟩
              simp only [ByteArray.size_append]
              omega
            · rw [r] at m1
              have M1 := Lib.hid m1
              clear m1 r
              go_wp2_with fail
              go_quiet (fail)
              go_wp2_with fail
              refine (M1.out _).mono ?_
              rintro e w9 ⟨rfl, rfl⟩
              go_wp2_with fail
              go_ret
              refine ⟨⟨_, rfl, ?_, fun h => Bool.noConfusion h⟩, fz.drewN _⟩
              simp only [ByteArray.size_append]
              omega
end Go.Proofs.YtmpfgdpicbpedaaDoor
