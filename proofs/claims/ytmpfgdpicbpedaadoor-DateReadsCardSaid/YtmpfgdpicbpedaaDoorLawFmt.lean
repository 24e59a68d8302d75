/-
  The law DateFormats. Printed by wip/lawfmt.py. Conditions: the package variables read as the text lays them; the text within reach.
-/
import Derived.Test.YtmpfgdpicbpedaaDoorLawUndo
namespace Go.Proofs.YtmpfgdpicbpedaaDoor
open Go.RowKit Go.Shelf
attribute [local go_sem] Oper.semAt_some

theorem fmtO.uniq {n : Int} {l : List UInt8} {e f : Ending} (h : fmtO n l e) (g : fmtO n l f) : e = f := by
  rcases h with ⟨hn, rfl⟩ | ⟨hr, y, m, d, hc, rfl⟩ <;> rcases g with ⟨gn, rfl⟩ | ⟨gr, y', m', d', gc, rfl⟩
  · rfl
  · rw [in_iff.2 gc.bd, gr] at hn; simp at hn
  · rw [in_iff.2 hc.bd, hr] at gn; simp at gn
  · obtain ⟨e1, e2, e3⟩ := hc.uniq gc
    have e1 : y = y' := by omega
    have e2 : m = m' := by omega
    have e3 : d = d' := by omega
    rw [e1, e2, e3]
theorem fmtO.shape {n : Int} {l : List UInt8} {e : Ending} (h : fmtO n l e) : ∃ (X : ByteArray) (b : Bool), e = .returned (.tuple #[.string X, .bool b]) := by
  rcases h with ⟨-, rfl⟩ | ⟨-, y, m, d, -, rfl⟩
  · exact ⟨_, _, rfl⟩
  · exact ⟨_, _, rfl⟩
theorem format_two (s : ByteArray) (hs : s.size ≤ 9223372036854775807) (n : Int) (w : World) (hT : Tabs w) : Calls Tryd.prog 22 #[.string s, .int .i64 n] w fun e w' => Frm (fun _ => False) w w' ∧ ∃ (X : ByteArray) (b : Bool), e = .returned (.tuple #[.string X, .bool b]) ∧ ∀ w2, Calls Tryd.prog 23 #[.string s, .int .i64 n] w2 fun e2 w3 => e2 = e ∧ Frm (fun _ => False) w2 w3 := by
  refine (format_any s hs n w hT).mono ?_
  rintro e w' ⟨h, f⟩
  obtain ⟨X, b, rfl⟩ := h.shape
  exact ⟨f, X, b, rfl, fun w2 => (rformat_any s n w2).mono fun e2 w3 ⟨h2, e3⟩ => ⟨h2.uniq h, e3⟩⟩
theorem pickS (l : List ByteArray) (B : Nat) (hl : ∀ s ∈ l, s.size ≤ B) (W : World) (E : Nat) (t : TypeId) (h : W.heap[E]? = some (.cells (l.map Value.string).toArray t (0, 0))) (j : Nat) (hj : j < l.length) : ∃ s : ByteArray, s.size ≤ B ∧ W.cell? ⟨E, j, none⟩ = some (.string s) := by
  refine ⟨l[j], hl _ (List.getElem_mem hj), cell_at h j ?_⟩
  simp [hj]

set_option maxRecDepth 100000 in
set_option maxHeartbeats 4000000 in
theorem law_formats (n : Int) (raw : ByteArray) (x0 x1 x2 : Int) (w : World) (hT : Tabs w) (_hn : -9223372036854775808 ≤ n ∧ n ≤ 9223372036854775807) (hraw : raw.size ≤ 140737488355328) (n0 : -9223372036854775808 ≤ x0 ∧ x0 ≤ 9223372036854775807) (n1 : -9223372036854775808 ≤ x1 ∧ x1 ≤ 9223372036854775807) (n2 : -9223372036854775808 ≤ x2 ∧ x2 ≤ 9223372036854775807) :
    Calls Tryd.prog 8 #[.int .i64 n, .string raw, .agg #[.int .i64 x0, .int .i64 x1, .int .i64 x2]] w fun e w' => e = .returned (.bool true) ∧ Frm (fun _ => False) w w' := by
  go_enter Tryd.func8, Tryd.ntmps8
  go_wp2_with fail
  have h0 := (Own.start w).box #[.int .i64 x0, .int .i64 x1, .int .i64 x2] 22
  obtain ⟨W0, hW0⟩ : ∃ W, W = w.alloc (.cells #[.int .i64 x0, .int .i64 x1, .int .i64 x2] 22) := ⟨_, rfl⟩
  obtain ⟨A, hA⟩ : ∃ b, b = w.heap.size := ⟨_, rfl⟩
  rw [← hW0, ← hA] at h0 ⊢
  clear hW0 hA
  refine (sanity_any W0 (hT.frm h0.frm)).mono ?_
  rintro e W1 ⟨rfl, f1⟩
  have h1 := h0.still f1
  clear f1 h0
  go_upto_region 3 with fail
  generalize bits BinOp.and IntKind.i64 n 2097151 = k
  obtain ⟨q0, q1, q2, -, -, -⟩ := cells3' (h1.obj (x := A) (cs := #[.int .i64 x0, .int .i64 x1, .int .i64 x2]) (t := 22) 0 rfl)
  refine wp_region_held_drew (S := fun w' => w'.cell? ⟨A, 0, none⟩ = some (.int .i64 x0) ∧ w'.cell? ⟨A, 1, none⟩ = some (.int .i64 x1) ∧ w'.cell? ⟨A, 2, none⟩ = some (.int .i64 x2)) (by kernel_rfl) ⟨q0, q1, q2⟩ (fun hHeld => ?_)
  obtain ⟨V0, hV0⟩ : ∃ w', w' = W1.drew := ⟨_, rfl⟩
  have hw0 := h1.drew
  rw [← hV0] at hw0 hHeld ⊢
  clear hV0 h1 q0 q1 q2
  have z1 : 4 + raw.size ≤ 9223372036854775807 := by omega
  have z2 : 4 + raw.size ≤ 9223372036854775802 := by omega
  refine wpAnyH_take (i := 0) (oi := ⟨some 20, _, _, _, _, _⟩) (v := (.string raw)) rfl (by kernel_rfl) (by kernel_rfl) (by kernel_rfl) (fun _ _ _ h => h) (.inl ⟨by rfl, fun w hw => by dsimp only at hw; go_simp⟩) hHeld ?_
  simp only [Act.put, List.setIfInBounds_toArray, List.set_cons_zero, List.set_cons_succ]
  refine wpAnyH_take (i := 1) (oi := ⟨some 21, _, _, _, _, _⟩) (v := (.agg #[.int .i64 x0, .int .i64 x1, .int .i64 x2])) rfl (by kernel_rfl) (by kernel_rfl) (by kernel_rfl) (fun _ _ _ h => h) (.inl ⟨by rfl, fun w hw => by dsimp only at hw; go_simp⟩) hHeld ?_
  simp only [Act.put, List.setIfInBounds_toArray, List.set_cons_zero, List.set_cons_succ]
  refine wpAnyH_take (i := 3) (oi := ⟨some 23, _, _, _, _, _⟩) (v := (.agg #[.int .i64 x0, .int .i64 x1, .int .i64 x2])) rfl (by kernel_rfl) (by kernel_rfl) (by kernel_rfl) (fun _ _ _ h => h) (.inl ⟨by rfl, fun w hw => by dsimp only at hw; go_simp⟩) hHeld ?_
  simp only [Act.put, List.setIfInBounds_toArray, List.set_cons_zero, List.set_cons_succ]
  refine wpAnyH_take (i := 5) (oi := ⟨some 25, _, _, _, _, _⟩) (v := (.string raw)) rfl (by kernel_rfl) (by kernel_rfl) (by kernel_rfl) (fun _ _ _ h => h) (.inl ⟨by rfl, fun w hw => by dsimp only at hw; go_simp⟩) hHeld ?_
  simp only [Act.put, List.setIfInBounds_toArray, List.set_cons_zero, List.set_cons_succ]
  refine wpAnyH_take (i := 6) (oi := ⟨some 26, _, _, _, _, _⟩) (v := (.string (⟨#[89, 89, 89, 89]⟩ ++ raw))) rfl (by kernel_rfl) (by kernel_rfl) (by kernel_rfl) (fun _ _ _ h => h) (.inl ⟨by rfl, fun w hw => by dsimp only at hw; go_simp⟩) hHeld ?_
  simp only [Act.put, List.setIfInBounds_toArray, List.set_cons_zero, List.set_cons_succ]
  refine wpAnyH_take (i := 7) (oi := ⟨some 27, _, _, _, _, _⟩) (v := (.string (⟨#[89, 89, 89, 89]⟩ ++ raw ++ ⟨#[77, 77, 46, 68, 68]⟩))) rfl (by kernel_rfl) (by kernel_rfl) (by kernel_rfl) (fun _ _ _ h => h) (.inl ⟨by rfl, fun w hw => by dsimp only at hw; go_simp⟩) hHeld ?_
  simp only [Act.put, List.setIfInBounds_toArray, List.set_cons_zero, List.set_cons_succ]
  refine wpAnyH_take (i := 10) (oi := ⟨some 30, _, _, _, _, _⟩) (v := (.int .i64 0)) rfl (by kernel_rfl) (by kernel_rfl) (by kernel_rfl) (fun _ _ _ h => h) (.inl ⟨by rfl, fun w hw => by dsimp only at hw; go_simp⟩) hHeld ?_
  simp only [Act.put, List.setIfInBounds_toArray, List.set_cons_zero, List.set_cons_succ]
  refine wpAnyH_ready (rs := [2]) (by kernel_rfl) (by simp) ?_
  refine AllReadyH.cons (o := ⟨some 22, _, _, _, _, _⟩) rfl (fun K hK => ?_) AllReadyH.nil
  go_simp
  refine (lay_any x0 x1 x2 false _ n0 n1 n2).mono ?_
  rintro e V1 ⟨⟨X, rfl, hX, -⟩, hf⟩
  have hw1 := hw0.still hf
  clear hf
  refine hK.out _ _ (by exact ⟨cell_at (hw1.obj (x := A) (cs := #[.int .i64 x0, .int .i64 x1, .int .i64 x2]) (t := 22) 0 rfl) 0 rfl, cell_at (hw1.obj (x := A) (cs := #[.int .i64 x0, .int .i64 x1, .int .i64 x2]) (t := 22) 0 rfl) 1 rfl, cell_at (hw1.obj (x := A) (cs := #[.int .i64 x0, .int .i64 x1, .int .i64 x2]) (t := 22) 0 rfl) 2 rfl⟩) (fun hHeld => ?_)
  clear hK K
  refine wpAnyH_ready (rs := [4]) (by kernel_rfl) (by simp) ?_
  refine AllReadyH.cons (o := ⟨some 24, _, _, _, _, _⟩) rfl (fun K hK => ?_) AllReadyH.nil
  go_simp
  refine (lay_any x0 x1 x2 true _ n0 n1 n2).mono ?_
  rintro e V2 ⟨⟨Y, rfl, hY, -⟩, hf⟩
  have hw2 := hw1.still hf
  clear hf
  refine hK.out _ _ (by exact ⟨cell_at (hw2.obj (x := A) (cs := #[.int .i64 x0, .int .i64 x1, .int .i64 x2]) (t := 22) 0 rfl) 0 rfl, cell_at (hw2.obj (x := A) (cs := #[.int .i64 x0, .int .i64 x1, .int .i64 x2]) (t := 22) 0 rfl) 1 rfl, cell_at (hw2.obj (x := A) (cs := #[.int .i64 x0, .int .i64 x1, .int .i64 x2]) (t := 22) 0 rfl) 2 rfl⟩) (fun hHeld => ?_)
  clear hK K
  refine wpAnyH_ready (rs := [8]) (by kernel_rfl) (by simp) ?_
  refine AllReadyH.cons (o := ⟨some 28, _, _, _, _, _⟩) rfl (fun K hK => ?_) AllReadyH.nil
  go_simp
  have hw3 := hw2.box #[.string raw, .string X, .string Y, .string (⟨#[89, 89, 89, 89]⟩ ++ raw ++ ⟨#[77, 77, 46, 68, 68]⟩)] 9
  obtain ⟨V3, hW⟩ : ∃ W, W = V2.alloc (.cells #[.string raw, .string X, .string Y, .string (⟨#[89, 89, 89, 89]⟩ ++ raw ++ ⟨#[77, 77, 46, 68, 68]⟩)] 9) := ⟨_, rfl⟩
  obtain ⟨E, hB⟩ : ∃ b, b = V2.heap.size := ⟨_, rfl⟩
  rw [← hW, ← hB] at hw3 ⊢
  clear hW hB
  refine hK.out _ _ (by exact ⟨cell_at (hw3.obj (x := A) (cs := #[.int .i64 x0, .int .i64 x1, .int .i64 x2]) (t := 22) 0 rfl) 0 rfl, cell_at (hw3.obj (x := A) (cs := #[.int .i64 x0, .int .i64 x1, .int .i64 x2]) (t := 22) 0 rfl) 1 rfl, cell_at (hw3.obj (x := A) (cs := #[.int .i64 x0, .int .i64 x1, .int .i64 x2]) (t := 22) 0 rfl) 2 rfl⟩) (fun hHeld => ?_)
  clear hK K
  refine wpAnyH_take (i := 9) (oi := ⟨some 29, _, _, _, _, _⟩) (v := (.int .i64 4)) rfl (by kernel_rfl) (by kernel_rfl) (by kernel_rfl) (fun _ _ _ h => h) (.inl ⟨by rfl, fun w hw => by dsimp only at hw; go_simp⟩) hHeld ?_
  simp only [Act.put, List.setIfInBounds_toArray, List.set_cons_zero, List.set_cons_succ]
  refine wpAnyH_done (by kernel_rfl) ?_ _
  obtain ⟨WE, hWE⟩ : ∃ W, W = V3 := ⟨_, rfl⟩
  have hO := (hw3.obj (x := E) (cs := #[.string raw, .string X, .string Y, .string (⟨#[89, 89, 89, 89]⟩ ++ raw ++ ⟨#[77, 77, 46, 68, 68]⟩)]) (t := 9) 1 rfl)
  have f9 := hw3.frm
  rw [← hWE] at hO f9 ⊢
  clear hWE hHeld hw3
  have HP := Lib.hid (pickS [raw, X, Y, (⟨#[89, 89, 89, 89]⟩ : ByteArray) ++ raw ++ (⟨#[77, 77, 46, 68, 68]⟩ : ByteArray)] 200000000000000 (by
    intro s hs
    simp only [List.mem_cons, List.not_mem_nil, or_false] at hs
    have z1 : (⟨#[89, 89, 89, 89]⟩ : ByteArray).size = 4 := rfl
    have z2 : (⟨#[77, 77, 46, 68, 68]⟩ : ByteArray).size = 5 := rfl
    rcases hs with rfl | rfl | rfl | rfl
    · omega
    · omega
    · omega
    · simp only [ByteArray.size_append]; omega) WE E 9 hO)
  clear hO
  go_wp2_with fail
  go_loopw [30] (fun i wr => ∃ j : Nat, i = .int .i64 j ∧ j ≤ 4 ∧ Frm (fun _ => False) WE wr) (fun i _ => 4 - (intOf i).toNat)
  case atStart => exact ⟨0, rfl, by omega, Frm.refl _ _⟩
  case round =>
    obtain ⟨j, rfl, hj, hf⟩ := hrel
    have fz := f9.trans hf
    by_cases h5 : j = 4
    · subst h5
      clear HP
      go_wp2_with fail
      go_ret
      exact ⟨rfl, fz⟩
    · have hj4 : j < 4 := by omega
      obtain ⟨s, hs, hc⟩ := HP.out j hj4
      have hc2 := hf.cell hc (fun h => h)
      have nj : (j : Int) < 4 := by omega
      have nj2 : ¬ (4 : Int) ≤ (j : Int) := by omega
      clear hc h5 hj
      go_wp2_with fail
      have hc := new_cells wr #[.int .i64 k, .int .i64 n] 3 wr.heap.size rfl
      obtain ⟨E2, hE2⟩ : ∃ S, S = wr.heap.size := ⟨_, rfl⟩
      obtain ⟨W, hW⟩ : ∃ W, W = wr.alloc (.cells #[.int .i64 k, .int .i64 n] 3) := ⟨_, rfl⟩
      have fW : Frm (fun _ => False) w W := by rw [hW]; exact fz.alloc _
      have fE : Frm (fun _ => False) WE W := by rw [hW]; exact hf.alloc _
      rw [← hE2, ← hW] at hc
      rw [← hE2, ← hW]
      clear hW hE2 hf fz hc2
      have d0 : W.cell? ⟨E2, 0, none⟩ = some (.int .i64 k) := hc 0 _ rfl
      have d1 : W.cell? ⟨E2, 1, none⟩ = some (.int .i64 n) := hc 1 _ rfl
      clear hc
      go_loopw [38] (fun i wr => ∃ m : Nat, i = .int .i64 m ∧ m ≤ 2 ∧ Frm (fun _ => False) W wr) (fun i _ => 2 - (intOf i).toNat)
      case atStart => exact ⟨0, rfl, by omega, Frm.refl _ _⟩
      case round =>
        obtain ⟨m, rfl, hm, hg⟩ := hrel
        by_cases h6 : m = 2
        · subst h6
          clear d0 d1
          go_wp2_with fail
          go_roundw
          case rel => exact ⟨j + 1, by go_num, by omega, fE.trans hg⟩
          case measure => simp [intOf]; omega
        · obtain ⟨x, hx⟩ : ∃ x : Int, W.cell? ⟨E2, m, none⟩ = some (.int .i64 x) := by
            have : m = 0 ∨ m = 1 := by omega
            rcases this with rfl | rfl
            · exact ⟨_, d0⟩
            · exact ⟨_, d1⟩
          have hx2 := hg.cell hx (fun h => h)
          have nm : (m : Int) < 2 := by omega
          have nm2 : ¬ (2 : Int) ≤ (m : Int) := by omega
          clear hx d0 d1 h6
          go_wp2_with fail
          refine (format_two s (by omega) x _ (hT.frm (fW.trans hg))).mono ?_
          rintro e w9 ⟨g9, X', b, rfl, h2⟩
          have H2 := Lib.hid h2
          have hg9 := hg.trans g9
          have eX : (X'.toList == X'.toList) = true := by simp
          have eX2 : (X'.toList != X'.toList) = false := by simp
          clear h2 g9 hg hx2
          go_wp2_with fail
          refine (H2.out _).mono ?_
          rintro e w10 ⟨rfl, g10⟩
          have hg10 := hg9.trans g10
          clear H2 g10 hg9
          cases b
          all_goals
            go_wp2_with fail
            go_roundw
            case rel => exact ⟨m + 1, by go_num, by omega, hg10⟩
            case measure => simp [intOf]; omega
end Go.Proofs.YtmpfgdpicbpedaaDoor
