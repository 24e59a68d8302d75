/-
  The law DateReads. Printed by wip/lawreads.py. Conditions: the package variables read as the text lays them; the text within reach.
-/
import Derived.Test.YtmpfgdpicbpedaaDoorLawFmt
import Derived.Test.YtmpfgdpicbpedaaDoorRRead
import Derived.Lib.AtoiErrMem
import Derived.Laws.IdiomStrings
namespace Go.Proofs.YtmpfgdpicbpedaaDoor
open Go.RowKit Go.Shelf
attribute [local go_sem] Oper.semAt_some

theorem read_two (s t : ByteArray) (hs : s.size ≤ 9223372036854775807) (ht : t.size ≤ 140737488355328) (w : World) (hT : Tabs w) : Calls Tryd.prog 25 #[.string s, .string t] w fun e w' => Frm (fun _ => False) w w' ∧ ∃ (n : Int) (b : Bool), e = .returned (.tuple #[.int .i64 n, .bool b]) ∧ ∀ w2, Calls Tryd.prog 26 #[.string s, .string t] w2 fun e2 w3 => e2 = e ∧ Frm (fun _ => False) w2 w3 := by
  refine (read_any s t hs (by omega) w hT).mono ?_
  rintro e w' ⟨h, f⟩
  obtain ⟨n, b, rfl⟩ := h.shape
  exact ⟨f, n, b, rfl, fun w2 => (rread_any s t ht w2).mono fun e2 w3 ⟨h2, e3⟩ => ⟨h2.uniq h, e3⟩⟩
theorem fmtO.size {n : Int} {l : List UInt8} {e : Ending} (h : fmtO n l e) : ∃ (X : ByteArray) (b : Bool), e = .returned (.tuple #[.string X, .bool b]) ∧ X.size ≤ 1000000 := by
  rcases h with ⟨-, rfl⟩ | ⟨hr, y, m, d, hc, rfl⟩
  · exact ⟨⟨#[]⟩, false, rfl, by decide⟩
  · refine ⟨⟨(fmtL y m d l).toArray⟩, true, rfl, ?_⟩
    obtain ⟨y', m', d', e1, e2, e3, b1, b2, b3⟩ := hc.nat
    have e1 : y = y' := by omega
    have e2 : m = m' := by omega
    have e3 : d = d' := by omega
    subst e1; subst e2; subst e3
    show (fmtL y m d l).toArray.size ≤ _
    rw [List.size_toArray]
    unfold fmtL
    have hl := right_len hr
    have hp := parts_len l
    have key : ∀ ps : List (List UInt8), (∀ t ∈ ps, Form t) → (ps.flatMap (fmtP y m d)).length ≤ 10004 * ps.length := by
      intro ps
      induction ps with
      | nil => intro _; simp
      | cons t ps ih =>
        intro h
        have h1 := fmtP_len y m d b1 b2 b3 (h t (by simp))
        have h2 := ih (fun x hx => h x (by simp [hx]))
        rw [List.flatMap_cons, List.length_append, List.length_cons]
        omega
    have := key (parts l) (parts_form _)
    omega

set_option maxRecDepth 100000 in
set_option maxHeartbeats 8000000 in
theorem law_reads (n : Int) (raw : ByteArray) (x0 x1 x2 x3 x4 x5 x6 x7 : Int) (w : World) (hT : Tabs w) (_hn : -9223372036854775808 ≤ n ∧ n ≤ 9223372036854775807) (hraw : raw.size ≤ 140737488355328) (n0 : -9223372036854775808 ≤ x0 ∧ x0 ≤ 9223372036854775807) (n1 : -9223372036854775808 ≤ x1 ∧ x1 ≤ 9223372036854775807) (n2 : -9223372036854775808 ≤ x2 ∧ x2 ≤ 9223372036854775807) (n3 : -9223372036854775808 ≤ x3 ∧ x3 ≤ 9223372036854775807) (n4 : -9223372036854775808 ≤ x4 ∧ x4 ≤ 9223372036854775807) (n5 : -9223372036854775808 ≤ x5 ∧ x5 ≤ 9223372036854775807) (n6 : -9223372036854775808 ≤ x6 ∧ x6 ≤ 9223372036854775807) (_n7 : -9223372036854775808 ≤ x7 ∧ x7 ≤ 9223372036854775807) :
    Calls Tryd.prog 9 #[.int .i64 n, .string raw, .agg #[.int .i64 x0, .int .i64 x1, .int .i64 x2, .int .i64 x3, .int .i64 x4, .int .i64 x5, .int .i64 x6, .int .i64 x7]] w fun e w' => e = .returned (.bool true) ∧ Frm (fun _ => False) w w' := by
  go_enter Tryd.func9, Tryd.ntmps9
  go_wp2_with fail
  have h0 := (Own.start w).box #[.int .i64 x0, .int .i64 x1, .int .i64 x2, .int .i64 x3, .int .i64 x4, .int .i64 x5, .int .i64 x6, .int .i64 x7] 47
  obtain ⟨W0, hW0⟩ : ∃ W, W = w.alloc (.cells #[.int .i64 x0, .int .i64 x1, .int .i64 x2, .int .i64 x3, .int .i64 x4, .int .i64 x5, .int .i64 x6, .int .i64 x7] 47) := ⟨_, rfl⟩
  obtain ⟨A, hA⟩ : ∃ b, b = w.heap.size := ⟨_, rfl⟩
  rw [← hW0, ← hA] at h0 ⊢
  clear hW0 hA
  refine (sanity_any W0 (hT.frm h0.frm)).mono ?_
  rintro e W1 ⟨rfl, f1⟩
  have h1 := h0.still f1
  clear f1 h0
  go_upto_region 3 with fail
  generalize bits BinOp.and IntKind.i64 n 2097151 = k
  have hO := h1.obj (x := A) (cs := #[.int .i64 x0, .int .i64 x1, .int .i64 x2, .int .i64 x3, .int .i64 x4, .int .i64 x5, .int .i64 x6, .int .i64 x7]) (t := 47) 0 rfl
  have q0 : W1.cell? ⟨A, 0, none⟩ = some (.int .i64 x0) := cell_at hO 0 rfl
  have q1 : W1.cell? ⟨A, 1, none⟩ = some (.int .i64 x1) := cell_at hO 1 rfl
  have q2 : W1.cell? ⟨A, 2, none⟩ = some (.int .i64 x2) := cell_at hO 2 rfl
  have q3 : W1.cell? ⟨A, 3, none⟩ = some (.int .i64 x3) := cell_at hO 3 rfl
  have q4 : W1.cell? ⟨A, 4, none⟩ = some (.int .i64 x4) := cell_at hO 4 rfl
  have q5 : W1.cell? ⟨A, 5, none⟩ = some (.int .i64 x5) := cell_at hO 5 rfl
  have q6 : W1.cell? ⟨A, 6, none⟩ = some (.int .i64 x6) := cell_at hO 6 rfl
  have q7 : W1.cell? ⟨A, 7, none⟩ = some (.int .i64 x7) := cell_at hO 7 rfl
  refine wp_region_held_drew (S := fun w' => w'.cell? ⟨A, 0, none⟩ = some (.int .i64 x0) ∧ w'.cell? ⟨A, 1, none⟩ = some (.int .i64 x1) ∧ w'.cell? ⟨A, 2, none⟩ = some (.int .i64 x2) ∧ w'.cell? ⟨A, 3, none⟩ = some (.int .i64 x3) ∧ w'.cell? ⟨A, 4, none⟩ = some (.int .i64 x4) ∧ w'.cell? ⟨A, 5, none⟩ = some (.int .i64 x5) ∧ w'.cell? ⟨A, 6, none⟩ = some (.int .i64 x6) ∧ w'.cell? ⟨A, 7, none⟩ = some (.int .i64 x7)) (by kernel_rfl) ⟨q0, q1, q2, q3, q4, q5, q6, q7⟩ (fun hHeld => ?_)
  obtain ⟨V0, hV0⟩ : ∃ w', w' = W1.drew := ⟨_, rfl⟩
  have hw0 := h1.drew
  rw [← hV0] at hw0 hHeld ⊢
  clear hV0 h1 hO q0 q1 q2 q3 q4 q5 q6 q7
  refine wpAnyH_take (i := 0) (oi := ⟨some 25, _, _, _, _, _⟩) (v := (.pointer (some ⟨A, 0, none⟩))) rfl (by kernel_rfl) (by kernel_rfl) (by kernel_rfl) (fun _ _ _ h => h) (.inl ⟨by rfl, fun w hw => by dsimp only at hw; go_simp⟩) hHeld ?_
  simp only [Act.put, List.setIfInBounds_toArray, List.set_cons_zero, List.set_cons_succ]
  refine wpAnyH_take (i := 1) (oi := ⟨some 26, _, _, _, _, _⟩) (v := (.int .i64 x0)) rfl (by kernel_rfl) (by kernel_rfl) (by kernel_rfl) (fun _ _ _ h => h) (.inl ⟨by rfl, fun w hw => by dsimp only at hw; go_simp⟩) hHeld ?_
  simp only [Act.put, List.setIfInBounds_toArray, List.set_cons_zero, List.set_cons_succ]
  refine wpAnyH_take (i := 2) (oi := ⟨some 27, _, _, _, _, _⟩) (v := (.pointer (some ⟨A, 1, none⟩))) rfl (by kernel_rfl) (by kernel_rfl) (by kernel_rfl) (fun _ _ _ h => h) (.inl ⟨by rfl, fun w hw => by dsimp only at hw; go_simp⟩) hHeld ?_
  simp only [Act.put, List.setIfInBounds_toArray, List.set_cons_zero, List.set_cons_succ]
  refine wpAnyH_take (i := 3) (oi := ⟨some 28, _, _, _, _, _⟩) (v := (.int .i64 x1)) rfl (by kernel_rfl) (by kernel_rfl) (by kernel_rfl) (fun _ _ _ h => h) (.inl ⟨by rfl, fun w hw => by dsimp only at hw; go_simp⟩) hHeld ?_
  simp only [Act.put, List.setIfInBounds_toArray, List.set_cons_zero, List.set_cons_succ]
  refine wpAnyH_take (i := 4) (oi := ⟨some 29, _, _, _, _, _⟩) (v := (.pointer (some ⟨A, 2, none⟩))) rfl (by kernel_rfl) (by kernel_rfl) (by kernel_rfl) (fun _ _ _ h => h) (.inl ⟨by rfl, fun w hw => by dsimp only at hw; go_simp⟩) hHeld ?_
  simp only [Act.put, List.setIfInBounds_toArray, List.set_cons_zero, List.set_cons_succ]
  refine wpAnyH_take (i := 5) (oi := ⟨some 30, _, _, _, _, _⟩) (v := (.int .i64 x2)) rfl (by kernel_rfl) (by kernel_rfl) (by kernel_rfl) (fun _ _ _ h => h) (.inl ⟨by rfl, fun w hw => by dsimp only at hw; go_simp⟩) hHeld ?_
  simp only [Act.put, List.setIfInBounds_toArray, List.set_cons_zero, List.set_cons_succ]
  refine wpAnyH_take (i := 6) (oi := ⟨some 31, _, _, _, _, _⟩) (v := (.agg #[.int .i64 x0, .int .i64 x1, .int .i64 x2])) rfl (by kernel_rfl) (by kernel_rfl) (by kernel_rfl) (fun _ _ _ h => h) (.inl ⟨by rfl, fun w hw => by dsimp only at hw; go_simp⟩) hHeld ?_
  simp only [Act.put, List.setIfInBounds_toArray, List.set_cons_zero, List.set_cons_succ]
  refine wpAnyH_take (i := 8) (oi := ⟨some 33, _, _, _, _, _⟩) (v := (.pointer (some ⟨A, 3, none⟩))) rfl (by kernel_rfl) (by kernel_rfl) (by kernel_rfl) (fun _ _ _ h => h) (.inl ⟨by rfl, fun w hw => by dsimp only at hw; go_simp⟩) hHeld ?_
  simp only [Act.put, List.setIfInBounds_toArray, List.set_cons_zero, List.set_cons_succ]
  refine wpAnyH_take (i := 9) (oi := ⟨some 34, _, _, _, _, _⟩) (v := (.int .i64 x3)) rfl (by kernel_rfl) (by kernel_rfl) (by kernel_rfl) (fun _ _ _ h => h) (.inl ⟨by rfl, fun w hw => by dsimp only at hw; go_simp⟩) hHeld ?_
  simp only [Act.put, List.setIfInBounds_toArray, List.set_cons_zero, List.set_cons_succ]
  refine wpAnyH_take (i := 10) (oi := ⟨some 35, _, _, _, _, _⟩) (v := (.pointer (some ⟨A, 4, none⟩))) rfl (by kernel_rfl) (by kernel_rfl) (by kernel_rfl) (fun _ _ _ h => h) (.inl ⟨by rfl, fun w hw => by dsimp only at hw; go_simp⟩) hHeld ?_
  simp only [Act.put, List.setIfInBounds_toArray, List.set_cons_zero, List.set_cons_succ]
  refine wpAnyH_take (i := 11) (oi := ⟨some 36, _, _, _, _, _⟩) (v := (.int .i64 x4)) rfl (by kernel_rfl) (by kernel_rfl) (by kernel_rfl) (fun _ _ _ h => h) (.inl ⟨by rfl, fun w hw => by dsimp only at hw; go_simp⟩) hHeld ?_
  simp only [Act.put, List.setIfInBounds_toArray, List.set_cons_zero, List.set_cons_succ]
  refine wpAnyH_take (i := 12) (oi := ⟨some 37, _, _, _, _, _⟩) (v := (.pointer (some ⟨A, 5, none⟩))) rfl (by kernel_rfl) (by kernel_rfl) (by kernel_rfl) (fun _ _ _ h => h) (.inl ⟨by rfl, fun w hw => by dsimp only at hw; go_simp⟩) hHeld ?_
  simp only [Act.put, List.setIfInBounds_toArray, List.set_cons_zero, List.set_cons_succ]
  refine wpAnyH_take (i := 13) (oi := ⟨some 38, _, _, _, _, _⟩) (v := (.int .i64 x5)) rfl (by kernel_rfl) (by kernel_rfl) (by kernel_rfl) (fun _ _ _ h => h) (.inl ⟨by rfl, fun w hw => by dsimp only at hw; go_simp⟩) hHeld ?_
  simp only [Act.put, List.setIfInBounds_toArray, List.set_cons_zero, List.set_cons_succ]
  refine wpAnyH_take (i := 14) (oi := ⟨some 39, _, _, _, _, _⟩) (v := (.agg #[.int .i64 x3, .int .i64 x4, .int .i64 x5])) rfl (by kernel_rfl) (by kernel_rfl) (by kernel_rfl) (fun _ _ _ h => h) (.inl ⟨by rfl, fun w hw => by dsimp only at hw; go_simp⟩) hHeld ?_
  simp only [Act.put, List.setIfInBounds_toArray, List.set_cons_zero, List.set_cons_succ]
  refine wpAnyH_ready (rs := [7]) (by kernel_rfl) (by simp) ?_
  refine AllReadyH.cons (o := ⟨some 32, _, _, _, _, _⟩) rfl (fun K hK => ?_) AllReadyH.nil
  go_simp
  refine (lay_any x0 x1 x2 false _ n0 n1 n2).mono ?_
  rintro e V1 ⟨⟨X, rfl, hX, -⟩, hf⟩
  have hw1 := hw0.still hf
  clear hf
  refine hK.out _ _ (by exact ⟨cell_at (hw1.obj (x := A) (cs := #[.int .i64 x0, .int .i64 x1, .int .i64 x2, .int .i64 x3, .int .i64 x4, .int .i64 x5, .int .i64 x6, .int .i64 x7]) (t := 47) 0 rfl) 0 rfl, cell_at (hw1.obj (x := A) (cs := #[.int .i64 x0, .int .i64 x1, .int .i64 x2, .int .i64 x3, .int .i64 x4, .int .i64 x5, .int .i64 x6, .int .i64 x7]) (t := 47) 0 rfl) 1 rfl, cell_at (hw1.obj (x := A) (cs := #[.int .i64 x0, .int .i64 x1, .int .i64 x2, .int .i64 x3, .int .i64 x4, .int .i64 x5, .int .i64 x6, .int .i64 x7]) (t := 47) 0 rfl) 2 rfl, cell_at (hw1.obj (x := A) (cs := #[.int .i64 x0, .int .i64 x1, .int .i64 x2, .int .i64 x3, .int .i64 x4, .int .i64 x5, .int .i64 x6, .int .i64 x7]) (t := 47) 0 rfl) 3 rfl, cell_at (hw1.obj (x := A) (cs := #[.int .i64 x0, .int .i64 x1, .int .i64 x2, .int .i64 x3, .int .i64 x4, .int .i64 x5, .int .i64 x6, .int .i64 x7]) (t := 47) 0 rfl) 4 rfl, cell_at (hw1.obj (x := A) (cs := #[.int .i64 x0, .int .i64 x1, .int .i64 x2, .int .i64 x3, .int .i64 x4, .int .i64 x5, .int .i64 x6, .int .i64 x7]) (t := 47) 0 rfl) 5 rfl, cell_at (hw1.obj (x := A) (cs := #[.int .i64 x0, .int .i64 x1, .int .i64 x2, .int .i64 x3, .int .i64 x4, .int .i64 x5, .int .i64 x6, .int .i64 x7]) (t := 47) 0 rfl) 6 rfl, cell_at (hw1.obj (x := A) (cs := #[.int .i64 x0, .int .i64 x1, .int .i64 x2, .int .i64 x3, .int .i64 x4, .int .i64 x5, .int .i64 x6, .int .i64 x7]) (t := 47) 0 rfl) 7 rfl⟩) (fun hHeld => ?_)
  clear hK K
  refine wpAnyH_ready (rs := [15]) (by kernel_rfl) (by simp) ?_
  refine AllReadyH.cons (o := ⟨some 40, _, _, _, _, _⟩) rfl (fun K hK => ?_) AllReadyH.nil
  go_simp
  refine (lay_any x3 x4 x5 true _ n3 n4 n5).mono ?_
  rintro e V2 ⟨⟨Y, rfl, hY, -⟩, hf⟩
  have hw2 := hw1.still hf
  clear hf
  refine hK.out _ _ (by exact ⟨cell_at (hw2.obj (x := A) (cs := #[.int .i64 x0, .int .i64 x1, .int .i64 x2, .int .i64 x3, .int .i64 x4, .int .i64 x5, .int .i64 x6, .int .i64 x7]) (t := 47) 0 rfl) 0 rfl, cell_at (hw2.obj (x := A) (cs := #[.int .i64 x0, .int .i64 x1, .int .i64 x2, .int .i64 x3, .int .i64 x4, .int .i64 x5, .int .i64 x6, .int .i64 x7]) (t := 47) 0 rfl) 1 rfl, cell_at (hw2.obj (x := A) (cs := #[.int .i64 x0, .int .i64 x1, .int .i64 x2, .int .i64 x3, .int .i64 x4, .int .i64 x5, .int .i64 x6, .int .i64 x7]) (t := 47) 0 rfl) 2 rfl, cell_at (hw2.obj (x := A) (cs := #[.int .i64 x0, .int .i64 x1, .int .i64 x2, .int .i64 x3, .int .i64 x4, .int .i64 x5, .int .i64 x6, .int .i64 x7]) (t := 47) 0 rfl) 3 rfl, cell_at (hw2.obj (x := A) (cs := #[.int .i64 x0, .int .i64 x1, .int .i64 x2, .int .i64 x3, .int .i64 x4, .int .i64 x5, .int .i64 x6, .int .i64 x7]) (t := 47) 0 rfl) 4 rfl, cell_at (hw2.obj (x := A) (cs := #[.int .i64 x0, .int .i64 x1, .int .i64 x2, .int .i64 x3, .int .i64 x4, .int .i64 x5, .int .i64 x6, .int .i64 x7]) (t := 47) 0 rfl) 5 rfl, cell_at (hw2.obj (x := A) (cs := #[.int .i64 x0, .int .i64 x1, .int .i64 x2, .int .i64 x3, .int .i64 x4, .int .i64 x5, .int .i64 x6, .int .i64 x7]) (t := 47) 0 rfl) 6 rfl, cell_at (hw2.obj (x := A) (cs := #[.int .i64 x0, .int .i64 x1, .int .i64 x2, .int .i64 x3, .int .i64 x4, .int .i64 x5, .int .i64 x6, .int .i64 x7]) (t := 47) 0 rfl) 7 rfl⟩) (fun hHeld => ?_)
  clear hK K
  refine wpAnyH_take (i := 16) (oi := ⟨some 9, _, _, _, _, _⟩) (v := (.string X)) rfl (by kernel_rfl) (by kernel_rfl) (by kernel_rfl) (fun _ _ _ h => h) (.inl ⟨by rfl, fun w hw => by dsimp only at hw; go_simp⟩) hHeld ?_
  simp only [Act.put, List.setIfInBounds_toArray, List.set_cons_zero, List.set_cons_succ]
  refine wpAnyH_take (i := 17) (oi := ⟨some 10, _, _, _, _, _⟩) (v := (.string Y)) rfl (by kernel_rfl) (by kernel_rfl) (by kernel_rfl) (fun _ _ _ h => h) (.inl ⟨by rfl, fun w hw => by dsimp only at hw; go_simp⟩) hHeld ?_
  simp only [Act.put, List.setIfInBounds_toArray, List.set_cons_zero, List.set_cons_succ]
  refine wpAnyH_done (by kernel_rfl) ?_ _
  obtain ⟨W2, hW2⟩ : ∃ W, W = V2 := ⟨_, rfl⟩
  have h2 := hw2
  rw [← hW2] at h2 ⊢
  clear hW2 hHeld hw2
  go_wp2_with fail
  refine (rformat_any X k _).mono ?_
  rintro e W6 ⟨hfm, f6⟩
  obtain ⟨S, bb, rfl, hSs⟩ := hfm.size
  have h6 := h2.still f6
  have hcvt : ∀ w : World, (convert 9 48 (.string S)).run Tryd.prog w = .ok (.slice (some ⟨w.heap.size, 0, none⟩) S.size (grownCap w S.size 0 5)) (Lib.bytesWorld w 5 S) := fun w => Lib.run_convert_string_bytes w 9 48 5 S Tryd.underlying9 Tryd.underlying48 Tryd.underlying5
  clear f6 h2 hfm
  by_cases hz : S.size = 0
  · have t3 : ¬ ((0 : Int) < (S.size : Int)) := by omega
    have t4 : decide ((0 : Int) < (S.size : Int)) = false := decide_eq_false t3
    have Hz := Lib.hid hz
    clear hz
    go_upto_region 8 with fail
    try (rename (¬ 0 < S.size) => h2; clear h2)
    have f7 : Frm (fun _ => False) W6 (Lib.bytesWorld W6 5 S) := Frm.of_below (Lib.bytesWorld_below W6 5 S)
    have hback : ∀ wr, (convert 48 9 (.slice (some ⟨W6.heap.size, 0, none⟩) S.size (grownCap W6 S.size 0 5))).run Tryd.prog wr = .ok (.string ⟨#[]⟩) wr := fun wr => by
      have := Go.run_convert_bytes_back (P := Tryd.prog) wr 48 9 5 ⟨W6.heap.size, 0, none⟩ (grownCap W6 S.size 0 5) [] Tryd.underlying48 Tryd.underlying5 Tryd.underlying9 (fun j hj => absurd hj (Nat.not_lt_zero _))
      rw [Hz.out]
      exact this
    obtain ⟨Z, hZ⟩ : ∃ Z : ByteArray, Z = ⟨#[]⟩ := ⟨_, rfl⟩
    have hZs : Z.size ≤ 1000000 := by rw [hZ]; decide
    rw [← hZ] at hback
    have f8 := (h6.still f7).frm
    generalize W6.heap.size = D at hback ⊢
    generalize grownCap W6 S.size 0 5 = cp at hback ⊢
    generalize Lib.bytesWorld W6 5 S = W8 at f8 ⊢
    have HB : Hid (∀ wr, Frm (fun _ => False) W8 wr → (convert 48 9 (.slice (some ⟨D, 0, none⟩) S.size cp)).run Tryd.prog wr = .ok (.string Z) wr) := fun wr _ => hback wr
    clear hZ f7 h6 hcvt t3 t4 hback
    have hZs2 : Z.size ≤ 200000000000000 := by omega
    go_wp2_with fail
    have hbx := heap_alloc_new W8 (.cells #[.string X, .string Y, .string raw, .string ⟨#[]⟩] 9)
    obtain ⟨WE, hWE⟩ : ∃ W, W = W8.alloc (.cells #[.string X, .string Y, .string raw, .string ⟨#[]⟩] 9) := ⟨_, rfl⟩
    obtain ⟨E, hE⟩ : ∃ b, b = W8.heap.size := ⟨_, rfl⟩
    have f9 : Frm (fun _ => False) w WE := by rw [hWE]; exact f8.alloc _
    have g9 : Frm (fun _ => False) W8 WE := by rw [hWE]; exact (Frm.refl _ _).alloc _
    rw [← hWE, ← hE] at hbx
    rw [← hWE, ← hE]
    clear hWE hE f8
    have HP := Lib.hid (pickS [X, Y, raw, ⟨#[]⟩] 200000000000000 (by
      intro s hs
      simp only [List.mem_cons, List.not_mem_nil, or_false] at hs
      rcases hs with rfl | rfl | rfl | rfl
      · omega
      · omega
      · omega
      · exact Nat.zero_le _) WE E 9 hbx)
    clear hbx
    go_loopw [67] (fun i wr => ∃ j : Nat, i = .int .i64 j ∧ j ≤ 4 ∧ Frm (fun _ => False) WE wr) (fun i _ => 4 - (intOf i).toNat)
    case atStart => exact ⟨0, rfl, by omega, Frm.refl _ _⟩
    case round =>
      obtain ⟨j, rfl, hj, hf⟩ := hrel
      have fz := f9.trans hf
      by_cases h5 : j = 4
      · subst h5
        clear HP HB
        go_wp2_with fail
        go_ret
        exact ⟨rfl, fz⟩
      · have hj4 : j < 4 := by omega
        obtain ⟨s, hs, hc⟩ := HP.out j hj4
        have hc2 := hf.cell hc (fun h => h)
        have nj : (j : Int) < 4 := by omega
        have nj2 : ¬ (4 : Int) ≤ (j : Int) := by omega
        have hbk := HB.out wr (g9.trans hf)
        clear hc h5 hj
        go_wp2_with fail
        have hby := heap_alloc_new wr (.cells #[.string S, .string Z, .string raw, .string (S ++ ⟨#[48]⟩), .string (⟨#[48]⟩ ++ S), .string ⟨#[]⟩] 9)
        obtain ⟨E2, hE2⟩ : ∃ S, S = wr.heap.size := ⟨_, rfl⟩
        obtain ⟨W, hW⟩ : ∃ W, W = wr.alloc (.cells #[.string S, .string Z, .string raw, .string (S ++ ⟨#[48]⟩), .string (⟨#[48]⟩ ++ S), .string ⟨#[]⟩] 9) := ⟨_, rfl⟩
        have fW : Frm (fun _ => False) w W := by rw [hW]; exact fz.alloc _
        have fE : Frm (fun _ => False) WE W := by rw [hW]; exact hf.alloc _
        rw [← hE2, ← hW] at hby
        rw [← hE2, ← hW]
        clear hW hE2 hf fz hc2 hbk
        have HQ := Lib.hid (pickS [S, Z, raw, S ++ (⟨#[48]⟩ : ByteArray), (⟨#[48]⟩ : ByteArray) ++ S, ⟨#[]⟩] 140737488355328 (by
          intro s hs
          simp only [List.mem_cons, List.not_mem_nil, or_false] at hs
          have z1 : (⟨#[48]⟩ : ByteArray).size = 1 := rfl
          rcases hs with rfl | rfl | rfl | rfl | rfl | rfl
          · omega
          · omega
          · omega
          · rw [ByteArray.size_append]; omega
          · rw [ByteArray.size_append]; omega
          · exact Nat.zero_le _) W E2 9 hby)
        clear hby
        go_loopw [81] (fun i wr => ∃ m : Nat, i = .int .i64 m ∧ m ≤ 6 ∧ Frm (fun _ => False) W wr) (fun i _ => 6 - (intOf i).toNat)
        case atStart => exact ⟨0, rfl, by omega, Frm.refl _ _⟩
        case round =>
          obtain ⟨m, rfl, hm, hg⟩ := hrel
          by_cases h6 : m = 6
          · subst h6
            clear HQ
            go_wp2_with fail
            go_roundw
            case rel => exact ⟨j + 1, by go_num, by omega, fE.trans hg⟩
            case measure => simp [intOf]; omega
          · have hm6 : m < 6 := by omega
            obtain ⟨t, ht, hx⟩ := HQ.out m hm6
            have hx2 := hg.cell hx (fun h => h)
            have nm : (m : Int) < 6 := by omega
            have nm2 : ¬ (6 : Int) ≤ (m : Int) := by omega
            clear hx h6
            go_wp2_with fail
            refine (read_two s t (by omega) ht _ (hT.frm (fW.trans hg))).mono ?_
            rintro e w9 ⟨g9', u, b, rfl, h2⟩
            have H2 := Lib.hid h2
            have hg9 := hg.trans g9'
            clear h2 g9' hg hx2
            go_wp2_with fail
            refine (H2.out _).mono ?_
            rintro e w10 ⟨rfl, g10⟩
            have hg10 := hg9.trans g10
            clear H2 g10 hg9
            cases b
            all_goals
              go_wp2_with fail
              go_roundw
              case rel => exact ⟨m + 1, by go_num, by omega, hg10⟩
              case measure => simp [intOf]; omega
  · have t3 : (0 : Int) < (S.size : Int) := by omega
    have Hpos := Lib.hid hz
    clear hz
    go_upto_region 7 with fail
    have hD : (Lib.bytesWorld W6 5 S).heap[W6.heap.size]? = some _ := Lib.bytesWorld_at_new W6 5 S
    have hcell : ∀ j, j < S.size → (Lib.bytesWorld W6 5 S).cell? ⟨W6.heap.size, j, none⟩ = some (.int .u8 (S.data.toList.getD j 0).toNat) := fun j hj => Lib.bytesWorld_cell W6 5 S j hj
    have f7 : Frm (fun _ => False) W6 (Lib.bytesWorld W6 5 S) := Frm.of_below (Lib.bytesWorld_below W6 5 S)
    have h7 := h6.still f7
    have hsz : S.size ≤ (Lib.bytesCells W6 5 S).size := by
      unfold Lib.bytesCells
      rw [Array.size_append, Array.size_map]
      show S.size ≤ S.size + _
      omega
    have hfz : ∀ j, j < S.size → (Lib.bytesWorld W6 5 S).frozen? ⟨W6.heap.size, j, none⟩ = false := fun j hj => by
      simp only [World.frozen?, hD]
      simp
      omega
    have hDn : w.heap.size ≤ W6.heap.size := h6.frm.size
    have hAlt : A < W6.heap.size := (Array.getElem?_eq_some_iff.1 (h6.obj (x := A) (cs := #[.int .i64 x0, .int .i64 x1, .int .i64 x2, .int .i64 x3, .int .i64 x4, .int .i64 x5, .int .i64 x6, .int .i64 x7]) (t := 47) 0 rfl)).1
    obtain ⟨D, hDD⟩ : ∃ D, D = W6.heap.size := ⟨_, rfl⟩
    obtain ⟨W7, hW7⟩ : ∃ W, W = Lib.bytesWorld W6 5 S := ⟨_, rfl⟩
    obtain ⟨cp, hcp⟩ : ∃ c, c = grownCap W6 S.size 0 5 := ⟨_, rfl⟩
    rw [← hW7, ← hDD] at hcell hfz
    rw [← hW7] at h7 f7
    rw [← hDD] at hDn hAlt
    rw [← hW7, ← hDD, ← hcp]
    have hAD : A ≠ D := by omega
    clear hW7 hDD hD hsz hcp h6
    obtain ⟨j, hj⟩ : ∃ j : Nat, x6 % (S.size : Int) = j := ⟨(x6 % (S.size : Int)).toNat, by have := Hpos.out; have := Int.emod_nonneg x6 (show (S.size : Int) ≠ 0 by omega); omega⟩
    have hj2 : j < S.size := by have := Hpos.out; have := Int.emod_lt_of_pos x6 (show (0 : Int) < S.size by omega); omega
    have hmod : ∀ W, Calls Tryd.prog 24 #[.int .i64 x6, .int .i64 S.size] W fun e w' => e = .returned (.int .i64 j) ∧ W = w' := fun W => by
      rw [← hj]
      exact mod_any x6 S.size W (by have := Hpos.out; omega) (by omega) n6.1 n6.2
    have Hmod := Lib.hid hmod
    obtain ⟨z, hzz⟩ : ∃ z, IntKind.u8.wrap x7 = z := ⟨_, rfl⟩
    have hz0 : 0 ≤ z ∧ z ≤ 255 := by rw [← hzz, IntKind.wrap_u8]; omega
    have nz : ¬ ((S.size : Int) ≤ (j : Int)) := by omega
    have hOA := h7.obj (x := A) (cs := #[.int .i64 x0, .int .i64 x1, .int .i64 x2, .int .i64 x3, .int .i64 x4, .int .i64 x5, .int .i64 x6, .int .i64 x7]) (t := 47) 0 rfl
    have Hcell := Lib.hid hcell
    have Hfz := Lib.hid hfz
    have g1 : W7.drew.cell? ⟨D, j, none⟩ = some (.int .u8 (S.data.toList.getD j 0).toNat) := hcell j hj2
    have g2 : W7.drew.frozen? ⟨D, j, none⟩ = false := hfz j hj2
    have q6 : W7.cell? ⟨A, 6, none⟩ = some (.int .i64 x6) := cell_at hOA 6 rfl
    have q7 : W7.cell? ⟨A, 7, none⟩ = some (.int .i64 x7) := cell_at hOA 7 rfl
    refine wp_region_held_drew (S := fun w' => w'.cell? ⟨A, 6, none⟩ = some (.int .i64 x6) ∧ w'.cell? ⟨A, 7, none⟩ = some (.int .i64 x7)) (by kernel_rfl) ⟨q6, q7⟩ (fun hHeld => ?_)
    obtain ⟨VD, hVD⟩ : ∃ w', w' = W7.drew := ⟨_, rfl⟩
    have hcellD : ∀ j, j < S.size → VD.cell? ⟨D, j, none⟩ = some (.int .u8 (S.data.toList.getD j 0).toNat) := by rw [hVD]; exact hcell
    have HcellD := Lib.hid hcellD
    have hfVD : Frm (fun _ => False) w VD := by rw [hVD]; exact h7.frm.drew
    rw [← hVD] at hHeld g1 g2 ⊢
    clear hVD hcell hfz hmod hj hOA q6 q7 h7 hcellD t3 hcvt
    refine wpAnyH_take (i := 0) (oi := ⟨some 52, _, _, _, _, _⟩) (v := (.slice (some ⟨D, 0, none⟩) S.size cp)) rfl (by kernel_rfl) (by kernel_rfl) (by kernel_rfl) (fun _ _ _ h => h) (.inl ⟨by rfl, fun w hw => by dsimp only at hw; go_simp⟩) hHeld ?_
    simp only [Act.put, List.setIfInBounds_toArray, List.set_cons_zero, List.set_cons_succ]
    refine wpAnyH_take (i := 1) (oi := ⟨some 53, _, _, _, _, _⟩) (v := (.pointer (some ⟨A, 6, none⟩))) rfl (by kernel_rfl) (by kernel_rfl) (by kernel_rfl) (fun _ _ _ h => h) (.inl ⟨by rfl, fun w hw => by dsimp only at hw; go_simp⟩) hHeld ?_
    simp only [Act.put, List.setIfInBounds_toArray, List.set_cons_zero, List.set_cons_succ]
    refine wpAnyH_take (i := 2) (oi := ⟨some 54, _, _, _, _, _⟩) (v := (.int .i64 x6)) rfl (by kernel_rfl) (by kernel_rfl) (by kernel_rfl) (fun _ _ _ h => h) (.inl ⟨by rfl, fun w hw => by dsimp only at hw; go_simp⟩) hHeld ?_
    simp only [Act.put, List.setIfInBounds_toArray, List.set_cons_zero, List.set_cons_succ]
    refine wpAnyH_take (i := 3) (oi := ⟨some 55, _, _, _, _, _⟩) (v := (.slice (some ⟨D, 0, none⟩) S.size cp)) rfl (by kernel_rfl) (by kernel_rfl) (by kernel_rfl) (fun _ _ _ h => h) (.inl ⟨by rfl, fun w hw => by dsimp only at hw; go_simp⟩) hHeld ?_
    simp only [Act.put, List.setIfInBounds_toArray, List.set_cons_zero, List.set_cons_succ]
    refine wpAnyH_take (i := 4) (oi := ⟨some 56, _, _, _, _, _⟩) (v := (.int .i64 S.size)) rfl (by kernel_rfl) (by kernel_rfl) (by kernel_rfl) (fun _ _ _ h => h) (.inl ⟨by rfl, fun w hw => by dsimp only at hw; go_simp⟩) hHeld ?_
    simp only [Act.put, List.setIfInBounds_toArray, List.set_cons_zero, List.set_cons_succ]
    refine wpAnyH_take (i := 6) (oi := ⟨some 58, _, _, _, _, _⟩) (v := (.pointer (some ⟨A, 7, none⟩))) rfl (by kernel_rfl) (by kernel_rfl) (by kernel_rfl) (fun _ _ _ h => h) (.inl ⟨by rfl, fun w hw => by dsimp only at hw; go_simp⟩) hHeld ?_
    simp only [Act.put, List.setIfInBounds_toArray, List.set_cons_zero, List.set_cons_succ]
    refine wpAnyH_take (i := 7) (oi := ⟨some 59, _, _, _, _, _⟩) (v := (.int .i64 x7)) rfl (by kernel_rfl) (by kernel_rfl) (by kernel_rfl) (fun _ _ _ h => h) (.inl ⟨by rfl, fun w hw => by dsimp only at hw; go_simp⟩) hHeld ?_
    simp only [Act.put, List.setIfInBounds_toArray, List.set_cons_zero, List.set_cons_succ]
    refine wpAnyH_take (i := 8) (oi := ⟨some 60, _, _, _, _, _⟩) (v := (.int .u8 z)) rfl (by kernel_rfl) (by kernel_rfl) (by kernel_rfl) (fun _ _ _ h => h) (.inl ⟨by rfl, fun w hw => by dsimp only at hw; go_simp⟩) hHeld ?_
    simp only [Act.put, List.setIfInBounds_toArray, List.set_cons_zero, List.set_cons_succ]
    refine wpAnyH_ready (rs := [5]) (by kernel_rfl) (by simp) ?_
    refine AllReadyH.cons (o := ⟨some 57, _, _, _, _, _⟩) rfl (fun K hK => ?_) AllReadyH.nil
    go_simp
    refine (Hmod.out _).mono ?_
    rintro e w9 ⟨rfl, rfl⟩
    refine hK.out _ _ hHeld (fun hHeld => ?_)
    clear hK K
    refine wpAnyH_take (i := 9) (oi := ⟨some 61, _, _, _, _, _⟩) (v := (.pointer (some ⟨D, j, none⟩))) rfl (by kernel_rfl) (by kernel_rfl) (by kernel_rfl) (fun _ _ _ h => h) (.inl ⟨by rfl, fun w hw => by dsimp only at hw; go_simp⟩) hHeld ?_
    simp only [Act.put, List.setIfInBounds_toArray, List.set_cons_zero, List.set_cons_succ]
    refine wpAnyH_ready (rs := [10]) (by kernel_rfl) (by simp) ?_
    refine AllReadyH.cons (o := ⟨none, _, _, _, _, _⟩) rfl (fun K hK => ?_) AllReadyH.nil
    go_simp
    refine hK.out _ _ ⟨(set_frm VD D j _).cell hHeld.1 hAD, (set_frm VD D j _).cell hHeld.2 hAD⟩ (fun _ => ?_)
    clear hK K
    refine wpAnyH_done (by kernel_rfl) ?_ _
    have f8 : Frm (fun _ => False) w (VD.setCell ⟨D, j, none⟩ (.int .u8 z)) := hfVD.setCell (p := ⟨D, j, none⟩) (.inr hDn) _
    have hlen : (S.data.toList.set j (UInt8.ofNat z.toNat)).length = S.size := by rw [List.length_set, size_toList]
    have hcn : ∀ i (hi : i < (S.data.toList.set j (UInt8.ofNat z.toNat)).length), (VD.setCell ⟨D, j, none⟩ (.int .u8 z)).cell? ⟨D, i, none⟩ = some (.int .u8 ((S.data.toList.set j (UInt8.ofNat z.toNat))[i].toNat : Int)) := fun i hi => by
      rw [hlen] at hi
      by_cases e : i = j
      · subst e
        rw [World.cell?_setCell_same' _ _ _ (by rw [g1]; rfl), List.getElem_set_self, UInt8.toNat_ofNat']
        congr 2
        omega
      · rw [World.cell?_setCell_other _ _ _ _ (by intro h; injection h with _ h; exact e h.symm), HcellD.out i hi, List.getElem_set_ne (fun h => e h.symm)]
        simp [List.getD, List.getElem?_eq_getElem (show i < S.data.toList.length by rw [size_toList]; exact hi)]
    generalize VD.setCell ⟨D, j, none⟩ (.int .u8 z) = W8 at f8 hcn ⊢
    have hback : ∀ wr, Frm (fun _ => False) W8 wr → (convert 48 9 (.slice (some ⟨D, 0, none⟩) S.size cp)).run Tryd.prog wr = .ok (.string ⟨(S.data.toList.set j (UInt8.ofNat z.toNat)).toArray⟩) wr := fun wr hfw => by
      have := Go.run_convert_bytes_back (P := Tryd.prog) wr 48 9 5 ⟨D, 0, none⟩ cp (S.data.toList.set j (UInt8.ofNat z.toNat)) Tryd.underlying48 Tryd.underlying5 Tryd.underlying9 (fun i hi => by
        rw [Addr.add_lit, Nat.zero_add]
        exact hfw.cell (hcn i hi) (fun h => h))
      rw [hlen] at this
      exact this
    obtain ⟨Z, hZ⟩ : ∃ Z : ByteArray, Z = ⟨(S.data.toList.set j (UInt8.ofNat z.toNat)).toArray⟩ := ⟨_, rfl⟩
    have hZs : Z.size ≤ 1000000 := by
      rw [hZ]
      show (S.data.toList.set j (UInt8.ofNat z.toNat)).toArray.size ≤ _
      rw [List.size_toArray, hlen]
      omega
    rw [← hZ] at hback
    have HB : Hid (∀ wr, Frm (fun _ => False) W8 wr → (convert 48 9 (.slice (some ⟨D, 0, none⟩) S.size cp)).run Tryd.prog wr = .ok (.string Z) wr) := hback
    clear hback hZ hcn hlen g1 g2 HcellD Hcell Hfz nz hHeld hfVD Hmod hzz
    have hZs2 : Z.size ≤ 200000000000000 := by omega
    go_wp2_with fail
    have hbx := heap_alloc_new W8 (.cells #[.string X, .string Y, .string raw, .string ⟨#[]⟩] 9)
    obtain ⟨WE, hWE⟩ : ∃ W, W = W8.alloc (.cells #[.string X, .string Y, .string raw, .string ⟨#[]⟩] 9) := ⟨_, rfl⟩
    obtain ⟨E, hE⟩ : ∃ b, b = W8.heap.size := ⟨_, rfl⟩
    have f9 : Frm (fun _ => False) w WE := by rw [hWE]; exact f8.alloc _
    have g9 : Frm (fun _ => False) W8 WE := by rw [hWE]; exact (Frm.refl _ _).alloc _
    rw [← hWE, ← hE] at hbx
    rw [← hWE, ← hE]
    clear hWE hE f8
    have HP := Lib.hid (pickS [X, Y, raw, ⟨#[]⟩] 200000000000000 (by
      intro s hs
      simp only [List.mem_cons, List.not_mem_nil, or_false] at hs
      rcases hs with rfl | rfl | rfl | rfl
      · omega
      · omega
      · omega
      · exact Nat.zero_le _) WE E 9 hbx)
    clear hbx
    go_loopw [67] (fun i wr => ∃ j : Nat, i = .int .i64 j ∧ j ≤ 4 ∧ Frm (fun _ => False) WE wr) (fun i _ => 4 - (intOf i).toNat)
    case atStart => exact ⟨0, rfl, by omega, Frm.refl _ _⟩
    case round =>
      obtain ⟨j, rfl, hj, hf⟩ := hrel
      have fz := f9.trans hf
      by_cases h5 : j = 4
      · subst h5
        clear HP HB
        go_wp2_with fail
        go_ret
        exact ⟨rfl, fz⟩
      · have hj4 : j < 4 := by omega
        obtain ⟨s, hs, hc⟩ := HP.out j hj4
        have hc2 := hf.cell hc (fun h => h)
        have nj : (j : Int) < 4 := by omega
        have nj2 : ¬ (4 : Int) ≤ (j : Int) := by omega
        have hbk := HB.out wr (g9.trans hf)
        clear hc h5 hj
        go_wp2_with fail
        have hby := heap_alloc_new wr (.cells #[.string S, .string Z, .string raw, .string (S ++ ⟨#[48]⟩), .string (⟨#[48]⟩ ++ S), .string ⟨#[]⟩] 9)
        obtain ⟨E2, hE2⟩ : ∃ S, S = wr.heap.size := ⟨_, rfl⟩
        obtain ⟨W, hW⟩ : ∃ W, W = wr.alloc (.cells #[.string S, .string Z, .string raw, .string (S ++ ⟨#[48]⟩), .string (⟨#[48]⟩ ++ S), .string ⟨#[]⟩] 9) := ⟨_, rfl⟩
        have fW : Frm (fun _ => False) w W := by rw [hW]; exact fz.alloc _
        have fE : Frm (fun _ => False) WE W := by rw [hW]; exact hf.alloc _
        rw [← hE2, ← hW] at hby
        rw [← hE2, ← hW]
        clear hW hE2 hf fz hc2 hbk
        have HQ := Lib.hid (pickS [S, Z, raw, S ++ (⟨#[48]⟩ : ByteArray), (⟨#[48]⟩ : ByteArray) ++ S, ⟨#[]⟩] 140737488355328 (by
          intro s hs
          simp only [List.mem_cons, List.not_mem_nil, or_false] at hs
          have z1 : (⟨#[48]⟩ : ByteArray).size = 1 := rfl
          rcases hs with rfl | rfl | rfl | rfl | rfl | rfl
          · omega
          · omega
          · omega
          · rw [ByteArray.size_append]; omega
          · rw [ByteArray.size_append]; omega
          · exact Nat.zero_le _) W E2 9 hby)
        clear hby
        go_loopw [81] (fun i wr => ∃ m : Nat, i = .int .i64 m ∧ m ≤ 6 ∧ Frm (fun _ => False) W wr) (fun i _ => 6 - (intOf i).toNat)
        case atStart => exact ⟨0, rfl, by omega, Frm.refl _ _⟩
        case round =>
          obtain ⟨m, rfl, hm, hg⟩ := hrel
          by_cases h6 : m = 6
          · subst h6
            clear HQ
            go_wp2_with fail
            go_roundw
            case rel => exact ⟨j + 1, by go_num, by omega, fE.trans hg⟩
            case measure => simp [intOf]; omega
          · have hm6 : m < 6 := by omega
            obtain ⟨t, ht, hx⟩ := HQ.out m hm6
            have hx2 := hg.cell hx (fun h => h)
            have nm : (m : Int) < 6 := by omega
            have nm2 : ¬ (6 : Int) ≤ (m : Int) := by omega
            clear hx h6
            go_wp2_with fail
            refine (read_two s t (by omega) ht _ (hT.frm (fW.trans hg))).mono ?_
            rintro e w9 ⟨g9', u, b, rfl, h2⟩
            have H2 := Lib.hid h2
            have hg9 := hg.trans g9'
            clear h2 g9' hg hx2
            go_wp2_with fail
            refine (H2.out _).mono ?_
            rintro e w10 ⟨rfl, g10⟩
            have hg10 := hg9.trans g10
            clear H2 g10 hg9
            cases b
            all_goals
              go_wp2_with fail
              go_roundw
              case rel => exact ⟨m + 1, by go_num, by omega, hg10⟩
              case measure => simp [intOf]; omega
end Go.Proofs.YtmpfgdpicbpedaaDoor
