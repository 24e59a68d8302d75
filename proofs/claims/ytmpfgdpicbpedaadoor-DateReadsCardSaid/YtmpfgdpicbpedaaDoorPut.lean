/-
  output.put: what its code does. Printed by wip/put.py. Conditions: the parts of the date within their ranges; the text within reach.
-/
import Derived.Test.YtmpfgdpicbpedaaDoorOut
import Derived.Test.YtmpfgdpicbpedaaDoorIter
namespace Go.Proofs.YtmpfgdpicbpedaaDoor
open Go.RowKit Go.Shelf
attribute [local go_sem] Oper.semAt_some

theorem Own.out {w0 w : World} {L : List Thing} (h : Own w0 L w) {o : Nat} {y m d : Int} {l : List UInt8} (i : Nat) (hi : L[i]? = some (outT o y m d l)) : w.cell? ⟨o, 0, none⟩ = some (.int .i64 y) ∧ w.cell? ⟨o, 1, none⟩ = some (.int .i64 m) ∧ w.cell? ⟨o, 2, none⟩ = some (.int .i64 d) := by
  obtain ⟨F, p, v, hp, ho, -⟩ := h.get hi
  exact ⟨(out_cells ho).1, (out_cells ho).2.1, (out_cells ho).2.2.1⟩
theorem Own.drop1 {w0 w : World} {L : List Thing} {T U : Thing} {i : Nat} (hi : i < L.length) (h : Own w0 ((L ++ [T]).set i U) w) : Own w0 (L.set i U) w := by
  rw [List.set_append_left _ _ hi] at h
  exact h.init _

variable {w0 w : World} {L : List Thing}

set_option maxRecDepth 100000 in
set_option maxHeartbeats 1000000 in
theorem own_put_Y (h : Own w0 L w) (hT : Tabs w0) {o y m d : Nat} {l : List UInt8} (i : Nat) (hi : L[i]? = some (outT o y m d l)) (hy : y ≤ 100000) (_hm : m ≤ 100000) (_hd : d ≤ 100000) (hl : l.length ≤ 1000000) :
    Calls Tryd.prog 44 #[.pointer (some ⟨o, 0, none⟩), .agg #[.string ⟨#[89, 89, 89, 89]⟩, .bool true]] w fun e w' => e = .returned (.tuple #[]) ∧ Own w0 (L.set i (outT o y m d (l ++ pad y 4))) w' := by
  have hil := (List.getElem?_eq_some_iff.1 hi).1
  have hb := h.box #[.string ⟨#[89, 89, 89, 89]⟩, .bool true] 74
  have hbi : (L ++ [cellT w.heap.size #[.string ⟨#[89, 89, 89, 89]⟩, .bool true] 74])[i]? = some (outT o y m d l) := get_left _ hi
  obtain ⟨c0, c1, c2⟩ := hb.out i hbi
  obtain ⟨t0, t1, -, -⟩ := cells2 (hb.obj (x := w.heap.size) (cs := #[.string ⟨#[89, 89, 89, 89]⟩, .bool true]) (t := 74) L.length (get_end _ _))
  have hT1 := hT.frm hb.frm
  obtain ⟨tb, htb⟩ : ∃ b, b = w.heap.size := ⟨_, rfl⟩
  obtain ⟨w1, hw1⟩ : ∃ w1, w1 = w.alloc (.cells #[.string ⟨#[89, 89, 89, 89]⟩, .bool true] 74) := ⟨_, rfl⟩
  rw [← htb] at hb hbi t0 t1
  rw [← hw1] at hb c0 c1 c2 t0 t1 hT1
  have Hw := Lib.hid hw1
  clear h
  go_enter Tryd.func44, Tryd.ntmps44
  go_upto_region 2 with fail
  rw [← htb, ← Hw.out]
  clear hw1 htb Hw
  go_upto_region 5 with fail
  refine wp_region_held_drew (S := fun w' => w'.cell? ⟨o, 0, none⟩ = some (.int .i64 y) ∧ w'.cell? ⟨tb, 0, none⟩ = some (.string ⟨#[89, 89, 89, 89]⟩)) (by kernel_rfl) ⟨c0, t0⟩ (fun hHeld => ?_)
  obtain ⟨w2, hw2⟩ : ∃ w2, w2 = w1.drew := ⟨_, rfl⟩
  have hb2 := hb.drew
  have hT2 : Tabs w2 := by rw [hw2]; exact hT1.frm (Frm.refl _ _).drew
  rw [← hw2] at hb2 hHeld ⊢
  have c2' : w2.cell? ⟨o, 0, none⟩ = some (.int .i64 y) ∧ w2.cell? ⟨tb, 0, none⟩ = some (.string ⟨#[89, 89, 89, 89]⟩) := by rw [hw2]; exact ⟨c0, t0⟩
  clear hw2 c0 c1 c2 t0 t1 hT1 hb
  refine wpAnyH_take (i := 0) (oi := ⟨some 31, _, _, _, _, _⟩) (v := (.pointer (some ⟨o, 0, none⟩))) rfl (by kernel_rfl) (by kernel_rfl) (by kernel_rfl) (fun _ _ _ h => h) (.inl ⟨by rfl, fun w hw => by dsimp only at hw; go_simp⟩) hHeld ?_
  simp only [Act.put, List.setIfInBounds_toArray, List.set_cons_zero, List.set_cons_succ]
  refine wpAnyH_take (i := 1) (oi := ⟨some 32, _, _, _, _, _⟩) (v := (.pointer (some ⟨o, 0, none⟩))) rfl (by kernel_rfl) (by kernel_rfl) (by kernel_rfl) (fun _ _ _ h => h) (.inl ⟨by rfl, fun w hw => by dsimp only at hw; go_simp⟩) hHeld ?_
  simp only [Act.put, List.setIfInBounds_toArray, List.set_cons_zero, List.set_cons_succ]
  refine wpAnyH_take (i := 2) (oi := ⟨some 33, _, _, _, _, _⟩) (v := (.pointer (some ⟨o, 3, none⟩))) rfl (by kernel_rfl) (by kernel_rfl) (by kernel_rfl) (fun _ _ _ h => h) (.inl ⟨by rfl, fun w hw => by dsimp only at hw; go_simp⟩) hHeld ?_
  simp only [Act.put, List.setIfInBounds_toArray, List.set_cons_zero, List.set_cons_succ]
  refine wpAnyH_take (i := 3) (oi := ⟨some 34, _, _, _, _, _⟩) (v := (.pointer (some ⟨o, 0, none⟩))) rfl (by kernel_rfl) (by kernel_rfl) (by kernel_rfl) (fun _ _ _ h => h) (.inl ⟨by rfl, fun w hw => by dsimp only at hw; go_simp⟩) hHeld ?_
  simp only [Act.put, List.setIfInBounds_toArray, List.set_cons_zero, List.set_cons_succ]
  refine wpAnyH_take (i := 4) (oi := ⟨some 35, _, _, _, _, _⟩) (v := (.pointer (some ⟨o, 0, none⟩))) rfl (by kernel_rfl) (by kernel_rfl) (by kernel_rfl) (fun _ _ _ h => h) (.inl ⟨by rfl, fun w hw => by dsimp only at hw; go_simp⟩) hHeld ?_
  simp only [Act.put, List.setIfInBounds_toArray, List.set_cons_zero, List.set_cons_succ]
  refine wpAnyH_take (i := 5) (oi := ⟨some 36, _, _, _, _, _⟩) (v := (.pointer (some ⟨o, 0, none⟩))) rfl (by kernel_rfl) (by kernel_rfl) (by kernel_rfl) (fun _ _ _ h => h) (.inl ⟨by rfl, fun w hw => by dsimp only at hw; go_simp⟩) hHeld ?_
  simp only [Act.put, List.setIfInBounds_toArray, List.set_cons_zero, List.set_cons_succ]
  refine wpAnyH_take (i := 6) (oi := ⟨some 37, _, _, _, _, _⟩) (v := (.int .i64 y)) rfl (by kernel_rfl) (by kernel_rfl) (by kernel_rfl) (fun _ _ _ h => h) (.inl ⟨by rfl, fun w hw => by dsimp only at hw; go_simp⟩) hHeld ?_
  simp only [Act.put, List.setIfInBounds_toArray, List.set_cons_zero, List.set_cons_succ]
  refine wpAnyH_ready (rs := [7]) (by kernel_rfl) (by simp) ?_
  refine AllReadyH.cons (o := ⟨some 38, _, _, _, _, _⟩) rfl (fun K hK => ?_) AllReadyH.nil
  go_simp
  refine (padded_any y 4 (by omega) (by omega) (by omega) w2 hT2).mono ?_
  rintro e3 w3 ⟨rfl, f3⟩
  have hb3 := hb2.still f3
  refine hK.out _ _ ⟨f3.cell c2'.1 (fun h => h), f3.cell c2'.2 (fun h => h)⟩ (fun hHeld => ?_)
  clear hK K hb2
  refine wpAnyH_ready (rs := [8]) (by kernel_rfl) (by simp) ?_
  refine AllReadyH.cons (o := ⟨some 39, _, _, _, _, _⟩) rfl (fun K hK => ?_) AllReadyH.nil
  go_simp
  unfold strV
  refine (own_write hb3 i hbi _ (by have := pad_len _ y 4 (Nat.le_refl _); show l.length + (pad y 4).toArray.size ≤ _; rw [List.size_toArray]; omega)).mono ?_
  rintro e4 w4 ⟨rfl, h4⟩
  have f4 := h4.drop1 hil
  have Hf4 := Lib.hid f4
  refine hK.out _ _ ?keep (fun hHeld => ?_)
  case keep =>
    refine ⟨(h4.out (o := o) (y := y) (m := m) (d := d) i (by rw [List.getElem?_set_self (by rw [List.length_append]; omega)])).1, (cells2 (h4.obj (x := tb) (cs := #[.string ⟨#[89, 89, 89, 89]⟩, .bool true]) (t := 74) L.length ?_)).1⟩
    rw [List.getElem?_set_ne (by omega)]
    exact get_end _ _
  clear hK K hb3 h4 f4
  refine wpAnyH_done (by kernel_rfl) ?_ _
  clear hHeld
  go_wp2_with fail
  go_end0
  exact ⟨rfl, Hf4.out⟩

set_option maxRecDepth 100000 in
set_option maxHeartbeats 1000000 in
theorem own_put_MM (h : Own w0 L w) (hT : Tabs w0) {o y m d : Nat} {l : List UInt8} (i : Nat) (hi : L[i]? = some (outT o y m d l)) (_hy : y ≤ 100000) (hm : m ≤ 100000) (_hd : d ≤ 100000) (hl : l.length ≤ 1000000) :
    Calls Tryd.prog 44 #[.pointer (some ⟨o, 0, none⟩), .agg #[.string ⟨#[77, 77]⟩, .bool true]] w fun e w' => e = .returned (.tuple #[]) ∧ Own w0 (L.set i (outT o y m d (l ++ pad m 2))) w' := by
  have hil := (List.getElem?_eq_some_iff.1 hi).1
  have hb := h.box #[.string ⟨#[77, 77]⟩, .bool true] 74
  have hbi : (L ++ [cellT w.heap.size #[.string ⟨#[77, 77]⟩, .bool true] 74])[i]? = some (outT o y m d l) := get_left _ hi
  obtain ⟨c0, c1, c2⟩ := hb.out i hbi
  obtain ⟨t0, t1, -, -⟩ := cells2 (hb.obj (x := w.heap.size) (cs := #[.string ⟨#[77, 77]⟩, .bool true]) (t := 74) L.length (get_end _ _))
  have hT1 := hT.frm hb.frm
  obtain ⟨tb, htb⟩ : ∃ b, b = w.heap.size := ⟨_, rfl⟩
  obtain ⟨w1, hw1⟩ : ∃ w1, w1 = w.alloc (.cells #[.string ⟨#[77, 77]⟩, .bool true] 74) := ⟨_, rfl⟩
  rw [← htb] at hb hbi t0 t1
  rw [← hw1] at hb c0 c1 c2 t0 t1 hT1
  have Hw := Lib.hid hw1
  clear h
  go_enter Tryd.func44, Tryd.ntmps44
  go_upto_region 2 with fail
  rw [← htb, ← Hw.out]
  clear hw1 htb Hw
  go_upto_region 7 with fail
  refine wp_region_held_drew (S := fun w' => w'.cell? ⟨o, 1, none⟩ = some (.int .i64 m) ∧ w'.cell? ⟨tb, 0, none⟩ = some (.string ⟨#[77, 77]⟩)) (by kernel_rfl) ⟨c1, t0⟩ (fun hHeld => ?_)
  obtain ⟨w2, hw2⟩ : ∃ w2, w2 = w1.drew := ⟨_, rfl⟩
  have hb2 := hb.drew
  have hT2 : Tabs w2 := by rw [hw2]; exact hT1.frm (Frm.refl _ _).drew
  rw [← hw2] at hb2 hHeld ⊢
  have c2' : w2.cell? ⟨o, 1, none⟩ = some (.int .i64 m) ∧ w2.cell? ⟨tb, 0, none⟩ = some (.string ⟨#[77, 77]⟩) := by rw [hw2]; exact ⟨c1, t0⟩
  clear hw2 c0 c1 c2 t0 t1 hT1 hb
  refine wpAnyH_take (i := 0) (oi := ⟨some 45, _, _, _, _, _⟩) (v := (.pointer (some ⟨o, 0, none⟩))) rfl (by kernel_rfl) (by kernel_rfl) (by kernel_rfl) (fun _ _ _ h => h) (.inl ⟨by rfl, fun w hw => by dsimp only at hw; go_simp⟩) hHeld ?_
  simp only [Act.put, List.setIfInBounds_toArray, List.set_cons_zero, List.set_cons_succ]
  refine wpAnyH_take (i := 1) (oi := ⟨some 46, _, _, _, _, _⟩) (v := (.pointer (some ⟨o, 0, none⟩))) rfl (by kernel_rfl) (by kernel_rfl) (by kernel_rfl) (fun _ _ _ h => h) (.inl ⟨by rfl, fun w hw => by dsimp only at hw; go_simp⟩) hHeld ?_
  simp only [Act.put, List.setIfInBounds_toArray, List.set_cons_zero, List.set_cons_succ]
  refine wpAnyH_take (i := 2) (oi := ⟨some 47, _, _, _, _, _⟩) (v := (.pointer (some ⟨o, 3, none⟩))) rfl (by kernel_rfl) (by kernel_rfl) (by kernel_rfl) (fun _ _ _ h => h) (.inl ⟨by rfl, fun w hw => by dsimp only at hw; go_simp⟩) hHeld ?_
  simp only [Act.put, List.setIfInBounds_toArray, List.set_cons_zero, List.set_cons_succ]
  refine wpAnyH_take (i := 3) (oi := ⟨some 48, _, _, _, _, _⟩) (v := (.pointer (some ⟨o, 0, none⟩))) rfl (by kernel_rfl) (by kernel_rfl) (by kernel_rfl) (fun _ _ _ h => h) (.inl ⟨by rfl, fun w hw => by dsimp only at hw; go_simp⟩) hHeld ?_
  simp only [Act.put, List.setIfInBounds_toArray, List.set_cons_zero, List.set_cons_succ]
  refine wpAnyH_take (i := 4) (oi := ⟨some 49, _, _, _, _, _⟩) (v := (.pointer (some ⟨o, 0, none⟩))) rfl (by kernel_rfl) (by kernel_rfl) (by kernel_rfl) (fun _ _ _ h => h) (.inl ⟨by rfl, fun w hw => by dsimp only at hw; go_simp⟩) hHeld ?_
  simp only [Act.put, List.setIfInBounds_toArray, List.set_cons_zero, List.set_cons_succ]
  refine wpAnyH_take (i := 5) (oi := ⟨some 50, _, _, _, _, _⟩) (v := (.pointer (some ⟨o, 1, none⟩))) rfl (by kernel_rfl) (by kernel_rfl) (by kernel_rfl) (fun _ _ _ h => h) (.inl ⟨by rfl, fun w hw => by dsimp only at hw; go_simp⟩) hHeld ?_
  simp only [Act.put, List.setIfInBounds_toArray, List.set_cons_zero, List.set_cons_succ]
  refine wpAnyH_take (i := 6) (oi := ⟨some 51, _, _, _, _, _⟩) (v := (.int .i64 m)) rfl (by kernel_rfl) (by kernel_rfl) (by kernel_rfl) (fun _ _ _ h => h) (.inl ⟨by rfl, fun w hw => by dsimp only at hw; go_simp⟩) hHeld ?_
  simp only [Act.put, List.setIfInBounds_toArray, List.set_cons_zero, List.set_cons_succ]
  refine wpAnyH_take (i := 7) (oi := ⟨some 52, _, _, _, _, _⟩) (v := (.pointer (some ⟨tb, 0, none⟩))) rfl (by kernel_rfl) (by kernel_rfl) (by kernel_rfl) (fun _ _ _ h => h) (.inl ⟨by rfl, fun w hw => by dsimp only at hw; go_simp⟩) hHeld ?_
  simp only [Act.put, List.setIfInBounds_toArray, List.set_cons_zero, List.set_cons_succ]
  refine wpAnyH_take (i := 8) (oi := ⟨some 53, _, _, _, _, _⟩) (v := (.string ⟨#[77, 77]⟩)) rfl (by kernel_rfl) (by kernel_rfl) (by kernel_rfl) (fun _ _ _ h => h) (.inl ⟨by rfl, fun w hw => by dsimp only at hw; go_simp⟩) hHeld ?_
  simp only [Act.put, List.setIfInBounds_toArray, List.set_cons_zero, List.set_cons_succ]
  refine wpAnyH_take (i := 9) (oi := ⟨some 54, _, _, _, _, _⟩) (v := (.int .i64 2)) rfl (by kernel_rfl) (by kernel_rfl) (by kernel_rfl) (fun _ _ _ h => h) (.inl ⟨by rfl, fun w hw => by dsimp only at hw; go_simp⟩) hHeld ?_
  simp only [Act.put, List.setIfInBounds_toArray, List.set_cons_zero, List.set_cons_succ]
  refine wpAnyH_ready (rs := [10]) (by kernel_rfl) (by simp) ?_
  refine AllReadyH.cons (o := ⟨some 55, _, _, _, _, _⟩) rfl (fun K hK => ?_) AllReadyH.nil
  go_simp
  refine (padded_any m 2 (by omega) (by omega) (by omega) w2 hT2).mono ?_
  rintro e3 w3 ⟨rfl, f3⟩
  have hb3 := hb2.still f3
  refine hK.out _ _ ⟨f3.cell c2'.1 (fun h => h), f3.cell c2'.2 (fun h => h)⟩ (fun hHeld => ?_)
  clear hK K hb2
  refine wpAnyH_ready (rs := [11]) (by kernel_rfl) (by simp) ?_
  refine AllReadyH.cons (o := ⟨some 56, _, _, _, _, _⟩) rfl (fun K hK => ?_) AllReadyH.nil
  go_simp
  unfold strV
  refine (own_write hb3 i hbi _ (by have := pad_len _ m 2 (Nat.le_refl _); show l.length + (pad m 2).toArray.size ≤ _; rw [List.size_toArray]; omega)).mono ?_
  rintro e4 w4 ⟨rfl, h4⟩
  have f4 := h4.drop1 hil
  have Hf4 := Lib.hid f4
  refine hK.out _ _ ?keep (fun hHeld => ?_)
  case keep =>
    refine ⟨(h4.out (o := o) (y := y) (m := m) (d := d) i (by rw [List.getElem?_set_self (by rw [List.length_append]; omega)])).2.1, (cells2 (h4.obj (x := tb) (cs := #[.string ⟨#[77, 77]⟩, .bool true]) (t := 74) L.length ?_)).1⟩
    rw [List.getElem?_set_ne (by omega)]
    exact get_end _ _
  clear hK K hb3 h4 f4
  refine wpAnyH_done (by kernel_rfl) ?_ _
  clear hHeld
  go_wp2_with fail
  go_end0
  exact ⟨rfl, Hf4.out⟩

set_option maxRecDepth 100000 in
set_option maxHeartbeats 1000000 in
theorem own_put_M (h : Own w0 L w) (hT : Tabs w0) {o y m d : Nat} {l : List UInt8} (i : Nat) (hi : L[i]? = some (outT o y m d l)) (_hy : y ≤ 100000) (hm : m ≤ 100000) (_hd : d ≤ 100000) (hl : l.length ≤ 1000000) :
    Calls Tryd.prog 44 #[.pointer (some ⟨o, 0, none⟩), .agg #[.string ⟨#[77]⟩, .bool true]] w fun e w' => e = .returned (.tuple #[]) ∧ Own w0 (L.set i (outT o y m d (l ++ pad m 1))) w' := by
  have hil := (List.getElem?_eq_some_iff.1 hi).1
  have hb := h.box #[.string ⟨#[77]⟩, .bool true] 74
  have hbi : (L ++ [cellT w.heap.size #[.string ⟨#[77]⟩, .bool true] 74])[i]? = some (outT o y m d l) := get_left _ hi
  obtain ⟨c0, c1, c2⟩ := hb.out i hbi
  obtain ⟨t0, t1, -, -⟩ := cells2 (hb.obj (x := w.heap.size) (cs := #[.string ⟨#[77]⟩, .bool true]) (t := 74) L.length (get_end _ _))
  have hT1 := hT.frm hb.frm
  obtain ⟨tb, htb⟩ : ∃ b, b = w.heap.size := ⟨_, rfl⟩
  obtain ⟨w1, hw1⟩ : ∃ w1, w1 = w.alloc (.cells #[.string ⟨#[77]⟩, .bool true] 74) := ⟨_, rfl⟩
  rw [← htb] at hb hbi t0 t1
  rw [← hw1] at hb c0 c1 c2 t0 t1 hT1
  have Hw := Lib.hid hw1
  clear h
  go_enter Tryd.func44, Tryd.ntmps44
  go_upto_region 2 with fail
  rw [← htb, ← Hw.out]
  clear hw1 htb Hw
  go_upto_region 7 with fail
  refine wp_region_held_drew (S := fun w' => w'.cell? ⟨o, 1, none⟩ = some (.int .i64 m) ∧ w'.cell? ⟨tb, 0, none⟩ = some (.string ⟨#[77]⟩)) (by kernel_rfl) ⟨c1, t0⟩ (fun hHeld => ?_)
  obtain ⟨w2, hw2⟩ : ∃ w2, w2 = w1.drew := ⟨_, rfl⟩
  have hb2 := hb.drew
  have hT2 : Tabs w2 := by rw [hw2]; exact hT1.frm (Frm.refl _ _).drew
  rw [← hw2] at hb2 hHeld ⊢
  have c2' : w2.cell? ⟨o, 1, none⟩ = some (.int .i64 m) ∧ w2.cell? ⟨tb, 0, none⟩ = some (.string ⟨#[77]⟩) := by rw [hw2]; exact ⟨c1, t0⟩
  clear hw2 c0 c1 c2 t0 t1 hT1 hb
  refine wpAnyH_take (i := 0) (oi := ⟨some 45, _, _, _, _, _⟩) (v := (.pointer (some ⟨o, 0, none⟩))) rfl (by kernel_rfl) (by kernel_rfl) (by kernel_rfl) (fun _ _ _ h => h) (.inl ⟨by rfl, fun w hw => by dsimp only at hw; go_simp⟩) hHeld ?_
  simp only [Act.put, List.setIfInBounds_toArray, List.set_cons_zero, List.set_cons_succ]
  refine wpAnyH_take (i := 1) (oi := ⟨some 46, _, _, _, _, _⟩) (v := (.pointer (some ⟨o, 0, none⟩))) rfl (by kernel_rfl) (by kernel_rfl) (by kernel_rfl) (fun _ _ _ h => h) (.inl ⟨by rfl, fun w hw => by dsimp only at hw; go_simp⟩) hHeld ?_
  simp only [Act.put, List.setIfInBounds_toArray, List.set_cons_zero, List.set_cons_succ]
  refine wpAnyH_take (i := 2) (oi := ⟨some 47, _, _, _, _, _⟩) (v := (.pointer (some ⟨o, 3, none⟩))) rfl (by kernel_rfl) (by kernel_rfl) (by kernel_rfl) (fun _ _ _ h => h) (.inl ⟨by rfl, fun w hw => by dsimp only at hw; go_simp⟩) hHeld ?_
  simp only [Act.put, List.setIfInBounds_toArray, List.set_cons_zero, List.set_cons_succ]
  refine wpAnyH_take (i := 3) (oi := ⟨some 48, _, _, _, _, _⟩) (v := (.pointer (some ⟨o, 0, none⟩))) rfl (by kernel_rfl) (by kernel_rfl) (by kernel_rfl) (fun _ _ _ h => h) (.inl ⟨by rfl, fun w hw => by dsimp only at hw; go_simp⟩) hHeld ?_
  simp only [Act.put, List.setIfInBounds_toArray, List.set_cons_zero, List.set_cons_succ]
  refine wpAnyH_take (i := 4) (oi := ⟨some 49, _, _, _, _, _⟩) (v := (.pointer (some ⟨o, 0, none⟩))) rfl (by kernel_rfl) (by kernel_rfl) (by kernel_rfl) (fun _ _ _ h => h) (.inl ⟨by rfl, fun w hw => by dsimp only at hw; go_simp⟩) hHeld ?_
  simp only [Act.put, List.setIfInBounds_toArray, List.set_cons_zero, List.set_cons_succ]
  refine wpAnyH_take (i := 5) (oi := ⟨some 50, _, _, _, _, _⟩) (v := (.pointer (some ⟨o, 1, none⟩))) rfl (by kernel_rfl) (by kernel_rfl) (by kernel_rfl) (fun _ _ _ h => h) (.inl ⟨by rfl, fun w hw => by dsimp only at hw; go_simp⟩) hHeld ?_
  simp only [Act.put, List.setIfInBounds_toArray, List.set_cons_zero, List.set_cons_succ]
  refine wpAnyH_take (i := 6) (oi := ⟨some 51, _, _, _, _, _⟩) (v := (.int .i64 m)) rfl (by kernel_rfl) (by kernel_rfl) (by kernel_rfl) (fun _ _ _ h => h) (.inl ⟨by rfl, fun w hw => by dsimp only at hw; go_simp⟩) hHeld ?_
  simp only [Act.put, List.setIfInBounds_toArray, List.set_cons_zero, List.set_cons_succ]
  refine wpAnyH_take (i := 7) (oi := ⟨some 52, _, _, _, _, _⟩) (v := (.pointer (some ⟨tb, 0, none⟩))) rfl (by kernel_rfl) (by kernel_rfl) (by kernel_rfl) (fun _ _ _ h => h) (.inl ⟨by rfl, fun w hw => by dsimp only at hw; go_simp⟩) hHeld ?_
  simp only [Act.put, List.setIfInBounds_toArray, List.set_cons_zero, List.set_cons_succ]
  refine wpAnyH_take (i := 8) (oi := ⟨some 53, _, _, _, _, _⟩) (v := (.string ⟨#[77]⟩)) rfl (by kernel_rfl) (by kernel_rfl) (by kernel_rfl) (fun _ _ _ h => h) (.inl ⟨by rfl, fun w hw => by dsimp only at hw; go_simp⟩) hHeld ?_
  simp only [Act.put, List.setIfInBounds_toArray, List.set_cons_zero, List.set_cons_succ]
  refine wpAnyH_take (i := 9) (oi := ⟨some 54, _, _, _, _, _⟩) (v := (.int .i64 1)) rfl (by kernel_rfl) (by kernel_rfl) (by kernel_rfl) (fun _ _ _ h => h) (.inl ⟨by rfl, fun w hw => by dsimp only at hw; go_simp⟩) hHeld ?_
  simp only [Act.put, List.setIfInBounds_toArray, List.set_cons_zero, List.set_cons_succ]
  refine wpAnyH_ready (rs := [10]) (by kernel_rfl) (by simp) ?_
  refine AllReadyH.cons (o := ⟨some 55, _, _, _, _, _⟩) rfl (fun K hK => ?_) AllReadyH.nil
  go_simp
  refine (padded_any m 1 (by omega) (by omega) (by omega) w2 hT2).mono ?_
  rintro e3 w3 ⟨rfl, f3⟩
  have hb3 := hb2.still f3
  refine hK.out _ _ ⟨f3.cell c2'.1 (fun h => h), f3.cell c2'.2 (fun h => h)⟩ (fun hHeld => ?_)
  clear hK K hb2
  refine wpAnyH_ready (rs := [11]) (by kernel_rfl) (by simp) ?_
  refine AllReadyH.cons (o := ⟨some 56, _, _, _, _, _⟩) rfl (fun K hK => ?_) AllReadyH.nil
  go_simp
  unfold strV
  refine (own_write hb3 i hbi _ (by have := pad_len _ m 1 (Nat.le_refl _); show l.length + (pad m 1).toArray.size ≤ _; rw [List.size_toArray]; omega)).mono ?_
  rintro e4 w4 ⟨rfl, h4⟩
  have f4 := h4.drop1 hil
  have Hf4 := Lib.hid f4
  refine hK.out _ _ ?keep (fun hHeld => ?_)
  case keep =>
    refine ⟨(h4.out (o := o) (y := y) (m := m) (d := d) i (by rw [List.getElem?_set_self (by rw [List.length_append]; omega)])).2.1, (cells2 (h4.obj (x := tb) (cs := #[.string ⟨#[77]⟩, .bool true]) (t := 74) L.length ?_)).1⟩
    rw [List.getElem?_set_ne (by omega)]
    exact get_end _ _
  clear hK K hb3 h4 f4
  refine wpAnyH_done (by kernel_rfl) ?_ _
  clear hHeld
  go_wp2_with fail
  go_end0
  exact ⟨rfl, Hf4.out⟩

set_option maxRecDepth 100000 in
set_option maxHeartbeats 1000000 in
theorem own_put_DD (h : Own w0 L w) (hT : Tabs w0) {o y m d : Nat} {l : List UInt8} (i : Nat) (hi : L[i]? = some (outT o y m d l)) (_hy : y ≤ 100000) (_hm : m ≤ 100000) (hd : d ≤ 100000) (hl : l.length ≤ 1000000) :
    Calls Tryd.prog 44 #[.pointer (some ⟨o, 0, none⟩), .agg #[.string ⟨#[68, 68]⟩, .bool true]] w fun e w' => e = .returned (.tuple #[]) ∧ Own w0 (L.set i (outT o y m d (l ++ pad d 2))) w' := by
  have hil := (List.getElem?_eq_some_iff.1 hi).1
  have hb := h.box #[.string ⟨#[68, 68]⟩, .bool true] 74
  have hbi : (L ++ [cellT w.heap.size #[.string ⟨#[68, 68]⟩, .bool true] 74])[i]? = some (outT o y m d l) := get_left _ hi
  obtain ⟨c0, c1, c2⟩ := hb.out i hbi
  obtain ⟨t0, t1, -, -⟩ := cells2 (hb.obj (x := w.heap.size) (cs := #[.string ⟨#[68, 68]⟩, .bool true]) (t := 74) L.length (get_end _ _))
  have hT1 := hT.frm hb.frm
  obtain ⟨tb, htb⟩ : ∃ b, b = w.heap.size := ⟨_, rfl⟩
  obtain ⟨w1, hw1⟩ : ∃ w1, w1 = w.alloc (.cells #[.string ⟨#[68, 68]⟩, .bool true] 74) := ⟨_, rfl⟩
  rw [← htb] at hb hbi t0 t1
  rw [← hw1] at hb c0 c1 c2 t0 t1 hT1
  have Hw := Lib.hid hw1
  clear h
  go_enter Tryd.func44, Tryd.ntmps44
  go_upto_region 2 with fail
  rw [← htb, ← Hw.out]
  clear hw1 htb Hw
  go_upto_region 1 with fail
  refine wp_region_held_drew (S := fun w' => w'.cell? ⟨o, 2, none⟩ = some (.int .i64 d) ∧ w'.cell? ⟨tb, 0, none⟩ = some (.string ⟨#[68, 68]⟩)) (by kernel_rfl) ⟨c2, t0⟩ (fun hHeld => ?_)
  obtain ⟨w2, hw2⟩ : ∃ w2, w2 = w1.drew := ⟨_, rfl⟩
  have hb2 := hb.drew
  have hT2 : Tabs w2 := by rw [hw2]; exact hT1.frm (Frm.refl _ _).drew
  rw [← hw2] at hb2 hHeld ⊢
  have c2' : w2.cell? ⟨o, 2, none⟩ = some (.int .i64 d) ∧ w2.cell? ⟨tb, 0, none⟩ = some (.string ⟨#[68, 68]⟩) := by rw [hw2]; exact ⟨c2, t0⟩
  clear hw2 c0 c1 c2 t0 t1 hT1 hb
  refine wpAnyH_take (i := 0) (oi := ⟨some 4, _, _, _, _, _⟩) (v := (.pointer (some ⟨o, 0, none⟩))) rfl (by kernel_rfl) (by kernel_rfl) (by kernel_rfl) (fun _ _ _ h => h) (.inl ⟨by rfl, fun w hw => by dsimp only at hw; go_simp⟩) hHeld ?_
  simp only [Act.put, List.setIfInBounds_toArray, List.set_cons_zero, List.set_cons_succ]
  refine wpAnyH_take (i := 1) (oi := ⟨some 5, _, _, _, _, _⟩) (v := (.pointer (some ⟨o, 0, none⟩))) rfl (by kernel_rfl) (by kernel_rfl) (by kernel_rfl) (fun _ _ _ h => h) (.inl ⟨by rfl, fun w hw => by dsimp only at hw; go_simp⟩) hHeld ?_
  simp only [Act.put, List.setIfInBounds_toArray, List.set_cons_zero, List.set_cons_succ]
  refine wpAnyH_take (i := 2) (oi := ⟨some 6, _, _, _, _, _⟩) (v := (.pointer (some ⟨o, 3, none⟩))) rfl (by kernel_rfl) (by kernel_rfl) (by kernel_rfl) (fun _ _ _ h => h) (.inl ⟨by rfl, fun w hw => by dsimp only at hw; go_simp⟩) hHeld ?_
  simp only [Act.put, List.setIfInBounds_toArray, List.set_cons_zero, List.set_cons_succ]
  refine wpAnyH_take (i := 3) (oi := ⟨some 7, _, _, _, _, _⟩) (v := (.pointer (some ⟨o, 0, none⟩))) rfl (by kernel_rfl) (by kernel_rfl) (by kernel_rfl) (fun _ _ _ h => h) (.inl ⟨by rfl, fun w hw => by dsimp only at hw; go_simp⟩) hHeld ?_
  simp only [Act.put, List.setIfInBounds_toArray, List.set_cons_zero, List.set_cons_succ]
  refine wpAnyH_take (i := 4) (oi := ⟨some 8, _, _, _, _, _⟩) (v := (.pointer (some ⟨o, 0, none⟩))) rfl (by kernel_rfl) (by kernel_rfl) (by kernel_rfl) (fun _ _ _ h => h) (.inl ⟨by rfl, fun w hw => by dsimp only at hw; go_simp⟩) hHeld ?_
  simp only [Act.put, List.setIfInBounds_toArray, List.set_cons_zero, List.set_cons_succ]
  refine wpAnyH_take (i := 5) (oi := ⟨some 9, _, _, _, _, _⟩) (v := (.pointer (some ⟨o, 2, none⟩))) rfl (by kernel_rfl) (by kernel_rfl) (by kernel_rfl) (fun _ _ _ h => h) (.inl ⟨by rfl, fun w hw => by dsimp only at hw; go_simp⟩) hHeld ?_
  simp only [Act.put, List.setIfInBounds_toArray, List.set_cons_zero, List.set_cons_succ]
  refine wpAnyH_take (i := 6) (oi := ⟨some 10, _, _, _, _, _⟩) (v := (.int .i64 d)) rfl (by kernel_rfl) (by kernel_rfl) (by kernel_rfl) (fun _ _ _ h => h) (.inl ⟨by rfl, fun w hw => by dsimp only at hw; go_simp⟩) hHeld ?_
  simp only [Act.put, List.setIfInBounds_toArray, List.set_cons_zero, List.set_cons_succ]
  refine wpAnyH_take (i := 7) (oi := ⟨some 11, _, _, _, _, _⟩) (v := (.pointer (some ⟨tb, 0, none⟩))) rfl (by kernel_rfl) (by kernel_rfl) (by kernel_rfl) (fun _ _ _ h => h) (.inl ⟨by rfl, fun w hw => by dsimp only at hw; go_simp⟩) hHeld ?_
  simp only [Act.put, List.setIfInBounds_toArray, List.set_cons_zero, List.set_cons_succ]
  refine wpAnyH_take (i := 8) (oi := ⟨some 12, _, _, _, _, _⟩) (v := (.string ⟨#[68, 68]⟩)) rfl (by kernel_rfl) (by kernel_rfl) (by kernel_rfl) (fun _ _ _ h => h) (.inl ⟨by rfl, fun w hw => by dsimp only at hw; go_simp⟩) hHeld ?_
  simp only [Act.put, List.setIfInBounds_toArray, List.set_cons_zero, List.set_cons_succ]
  refine wpAnyH_take (i := 9) (oi := ⟨some 13, _, _, _, _, _⟩) (v := (.int .i64 2)) rfl (by kernel_rfl) (by kernel_rfl) (by kernel_rfl) (fun _ _ _ h => h) (.inl ⟨by rfl, fun w hw => by dsimp only at hw; go_simp⟩) hHeld ?_
  simp only [Act.put, List.setIfInBounds_toArray, List.set_cons_zero, List.set_cons_succ]
  refine wpAnyH_ready (rs := [10]) (by kernel_rfl) (by simp) ?_
  refine AllReadyH.cons (o := ⟨some 14, _, _, _, _, _⟩) rfl (fun K hK => ?_) AllReadyH.nil
  go_simp
  refine (padded_any d 2 (by omega) (by omega) (by omega) w2 hT2).mono ?_
  rintro e3 w3 ⟨rfl, f3⟩
  have hb3 := hb2.still f3
  refine hK.out _ _ ⟨f3.cell c2'.1 (fun h => h), f3.cell c2'.2 (fun h => h)⟩ (fun hHeld => ?_)
  clear hK K hb2
  refine wpAnyH_ready (rs := [11]) (by kernel_rfl) (by simp) ?_
  refine AllReadyH.cons (o := ⟨some 15, _, _, _, _, _⟩) rfl (fun K hK => ?_) AllReadyH.nil
  go_simp
  unfold strV
  refine (own_write hb3 i hbi _ (by have := pad_len _ d 2 (Nat.le_refl _); show l.length + (pad d 2).toArray.size ≤ _; rw [List.size_toArray]; omega)).mono ?_
  rintro e4 w4 ⟨rfl, h4⟩
  have f4 := h4.drop1 hil
  have Hf4 := Lib.hid f4
  refine hK.out _ _ ?keep (fun hHeld => ?_)
  case keep =>
    refine ⟨(h4.out (o := o) (y := y) (m := m) (d := d) i (by rw [List.getElem?_set_self (by rw [List.length_append]; omega)])).2.2, (cells2 (h4.obj (x := tb) (cs := #[.string ⟨#[68, 68]⟩, .bool true]) (t := 74) L.length ?_)).1⟩
    rw [List.getElem?_set_ne (by omega)]
    exact get_end _ _
  clear hK K hb3 h4 f4
  refine wpAnyH_done (by kernel_rfl) ?_ _
  clear hHeld
  go_wp2_with fail
  go_end0
  exact ⟨rfl, Hf4.out⟩

set_option maxRecDepth 100000 in
set_option maxHeartbeats 1000000 in
theorem own_put_D (h : Own w0 L w) (hT : Tabs w0) {o y m d : Nat} {l : List UInt8} (i : Nat) (hi : L[i]? = some (outT o y m d l)) (_hy : y ≤ 100000) (_hm : m ≤ 100000) (hd : d ≤ 100000) (hl : l.length ≤ 1000000) :
    Calls Tryd.prog 44 #[.pointer (some ⟨o, 0, none⟩), .agg #[.string ⟨#[68]⟩, .bool true]] w fun e w' => e = .returned (.tuple #[]) ∧ Own w0 (L.set i (outT o y m d (l ++ pad d 1))) w' := by
  have hil := (List.getElem?_eq_some_iff.1 hi).1
  have hb := h.box #[.string ⟨#[68]⟩, .bool true] 74
  have hbi : (L ++ [cellT w.heap.size #[.string ⟨#[68]⟩, .bool true] 74])[i]? = some (outT o y m d l) := get_left _ hi
  obtain ⟨c0, c1, c2⟩ := hb.out i hbi
  obtain ⟨t0, t1, -, -⟩ := cells2 (hb.obj (x := w.heap.size) (cs := #[.string ⟨#[68]⟩, .bool true]) (t := 74) L.length (get_end _ _))
  have hT1 := hT.frm hb.frm
  obtain ⟨tb, htb⟩ : ∃ b, b = w.heap.size := ⟨_, rfl⟩
  obtain ⟨w1, hw1⟩ : ∃ w1, w1 = w.alloc (.cells #[.string ⟨#[68]⟩, .bool true] 74) := ⟨_, rfl⟩
  rw [← htb] at hb hbi t0 t1
  rw [← hw1] at hb c0 c1 c2 t0 t1 hT1
  have Hw := Lib.hid hw1
  clear h
  go_enter Tryd.func44, Tryd.ntmps44
  go_upto_region 2 with fail
  rw [← htb, ← Hw.out]
  clear hw1 htb Hw
  go_upto_region 1 with fail
  refine wp_region_held_drew (S := fun w' => w'.cell? ⟨o, 2, none⟩ = some (.int .i64 d) ∧ w'.cell? ⟨tb, 0, none⟩ = some (.string ⟨#[68]⟩)) (by kernel_rfl) ⟨c2, t0⟩ (fun hHeld => ?_)
  obtain ⟨w2, hw2⟩ : ∃ w2, w2 = w1.drew := ⟨_, rfl⟩
  have hb2 := hb.drew
  have hT2 : Tabs w2 := by rw [hw2]; exact hT1.frm (Frm.refl _ _).drew
  rw [← hw2] at hb2 hHeld ⊢
  have c2' : w2.cell? ⟨o, 2, none⟩ = some (.int .i64 d) ∧ w2.cell? ⟨tb, 0, none⟩ = some (.string ⟨#[68]⟩) := by rw [hw2]; exact ⟨c2, t0⟩
  clear hw2 c0 c1 c2 t0 t1 hT1 hb
  refine wpAnyH_take (i := 0) (oi := ⟨some 4, _, _, _, _, _⟩) (v := (.pointer (some ⟨o, 0, none⟩))) rfl (by kernel_rfl) (by kernel_rfl) (by kernel_rfl) (fun _ _ _ h => h) (.inl ⟨by rfl, fun w hw => by dsimp only at hw; go_simp⟩) hHeld ?_
  simp only [Act.put, List.setIfInBounds_toArray, List.set_cons_zero, List.set_cons_succ]
  refine wpAnyH_take (i := 1) (oi := ⟨some 5, _, _, _, _, _⟩) (v := (.pointer (some ⟨o, 0, none⟩))) rfl (by kernel_rfl) (by kernel_rfl) (by kernel_rfl) (fun _ _ _ h => h) (.inl ⟨by rfl, fun w hw => by dsimp only at hw; go_simp⟩) hHeld ?_
  simp only [Act.put, List.setIfInBounds_toArray, List.set_cons_zero, List.set_cons_succ]
  refine wpAnyH_take (i := 2) (oi := ⟨some 6, _, _, _, _, _⟩) (v := (.pointer (some ⟨o, 3, none⟩))) rfl (by kernel_rfl) (by kernel_rfl) (by kernel_rfl) (fun _ _ _ h => h) (.inl ⟨by rfl, fun w hw => by dsimp only at hw; go_simp⟩) hHeld ?_
  simp only [Act.put, List.setIfInBounds_toArray, List.set_cons_zero, List.set_cons_succ]
  refine wpAnyH_take (i := 3) (oi := ⟨some 7, _, _, _, _, _⟩) (v := (.pointer (some ⟨o, 0, none⟩))) rfl (by kernel_rfl) (by kernel_rfl) (by kernel_rfl) (fun _ _ _ h => h) (.inl ⟨by rfl, fun w hw => by dsimp only at hw; go_simp⟩) hHeld ?_
  simp only [Act.put, List.setIfInBounds_toArray, List.set_cons_zero, List.set_cons_succ]
  refine wpAnyH_take (i := 4) (oi := ⟨some 8, _, _, _, _, _⟩) (v := (.pointer (some ⟨o, 0, none⟩))) rfl (by kernel_rfl) (by kernel_rfl) (by kernel_rfl) (fun _ _ _ h => h) (.inl ⟨by rfl, fun w hw => by dsimp only at hw; go_simp⟩) hHeld ?_
  simp only [Act.put, List.setIfInBounds_toArray, List.set_cons_zero, List.set_cons_succ]
  refine wpAnyH_take (i := 5) (oi := ⟨some 9, _, _, _, _, _⟩) (v := (.pointer (some ⟨o, 2, none⟩))) rfl (by kernel_rfl) (by kernel_rfl) (by kernel_rfl) (fun _ _ _ h => h) (.inl ⟨by rfl, fun w hw => by dsimp only at hw; go_simp⟩) hHeld ?_
  simp only [Act.put, List.setIfInBounds_toArray, List.set_cons_zero, List.set_cons_succ]
  refine wpAnyH_take (i := 6) (oi := ⟨some 10, _, _, _, _, _⟩) (v := (.int .i64 d)) rfl (by kernel_rfl) (by kernel_rfl) (by kernel_rfl) (fun _ _ _ h => h) (.inl ⟨by rfl, fun w hw => by dsimp only at hw; go_simp⟩) hHeld ?_
  simp only [Act.put, List.setIfInBounds_toArray, List.set_cons_zero, List.set_cons_succ]
  refine wpAnyH_take (i := 7) (oi := ⟨some 11, _, _, _, _, _⟩) (v := (.pointer (some ⟨tb, 0, none⟩))) rfl (by kernel_rfl) (by kernel_rfl) (by kernel_rfl) (fun _ _ _ h => h) (.inl ⟨by rfl, fun w hw => by dsimp only at hw; go_simp⟩) hHeld ?_
  simp only [Act.put, List.setIfInBounds_toArray, List.set_cons_zero, List.set_cons_succ]
  refine wpAnyH_take (i := 8) (oi := ⟨some 12, _, _, _, _, _⟩) (v := (.string ⟨#[68]⟩)) rfl (by kernel_rfl) (by kernel_rfl) (by kernel_rfl) (fun _ _ _ h => h) (.inl ⟨by rfl, fun w hw => by dsimp only at hw; go_simp⟩) hHeld ?_
  simp only [Act.put, List.setIfInBounds_toArray, List.set_cons_zero, List.set_cons_succ]
  refine wpAnyH_take (i := 9) (oi := ⟨some 13, _, _, _, _, _⟩) (v := (.int .i64 1)) rfl (by kernel_rfl) (by kernel_rfl) (by kernel_rfl) (fun _ _ _ h => h) (.inl ⟨by rfl, fun w hw => by dsimp only at hw; go_simp⟩) hHeld ?_
  simp only [Act.put, List.setIfInBounds_toArray, List.set_cons_zero, List.set_cons_succ]
  refine wpAnyH_ready (rs := [10]) (by kernel_rfl) (by simp) ?_
  refine AllReadyH.cons (o := ⟨some 14, _, _, _, _, _⟩) rfl (fun K hK => ?_) AllReadyH.nil
  go_simp
  refine (padded_any d 1 (by omega) (by omega) (by omega) w2 hT2).mono ?_
  rintro e3 w3 ⟨rfl, f3⟩
  have hb3 := hb2.still f3
  refine hK.out _ _ ⟨f3.cell c2'.1 (fun h => h), f3.cell c2'.2 (fun h => h)⟩ (fun hHeld => ?_)
  clear hK K hb2
  refine wpAnyH_ready (rs := [11]) (by kernel_rfl) (by simp) ?_
  refine AllReadyH.cons (o := ⟨some 15, _, _, _, _, _⟩) rfl (fun K hK => ?_) AllReadyH.nil
  go_simp
  unfold strV
  refine (own_write hb3 i hbi _ (by have := pad_len _ d 1 (Nat.le_refl _); show l.length + (pad d 1).toArray.size ≤ _; rw [List.size_toArray]; omega)).mono ?_
  rintro e4 w4 ⟨rfl, h4⟩
  have f4 := h4.drop1 hil
  have Hf4 := Lib.hid f4
  refine hK.out _ _ ?keep (fun hHeld => ?_)
  case keep =>
    refine ⟨(h4.out (o := o) (y := y) (m := m) (d := d) i (by rw [List.getElem?_set_self (by rw [List.length_append]; omega)])).2.2, (cells2 (h4.obj (x := tb) (cs := #[.string ⟨#[68]⟩, .bool true]) (t := 74) L.length ?_)).1⟩
    rw [List.getElem?_set_ne (by omega)]
    exact get_end _ _
  clear hK K hb3 h4 f4
  refine wpAnyH_done (by kernel_rfl) ?_ _
  clear hHeld
  go_wp2_with fail
  go_end0
  exact ⟨rfl, Hf4.out⟩

set_option maxRecDepth 100000 in
set_option maxHeartbeats 1000000 in
theorem own_put_one (h : Own w0 L w) (hT : Tabs w0) {o y m d : Nat} {l : List UInt8} (i : Nat) (hi : L[i]? = some (outT o y m d l)) (_hy : y ≤ 100000) (_hm : m ≤ 100000) (_hd : d ≤ 100000) (hl : l.length ≤ 1000000) (S : ByteArray) (hS : S.size ≤ 1) :
    Calls Tryd.prog 44 #[.pointer (some ⟨o, 0, none⟩), .agg #[.string S, .bool false]] w fun e w' => e = .returned (.tuple #[]) ∧ Own w0 (L.set i (outT o y m d (l ++ S.data.toList))) w' := by
  have hil := (List.getElem?_eq_some_iff.1 hi).1
  have hb := h.box #[.string S, .bool false] 74
  have hbi : (L ++ [cellT w.heap.size #[.string S, .bool false] 74])[i]? = some (outT o y m d l) := get_left _ hi
  obtain ⟨c0, c1, c2⟩ := hb.out i hbi
  obtain ⟨t0, t1, -, -⟩ := cells2 (hb.obj (x := w.heap.size) (cs := #[.string S, .bool false]) (t := 74) L.length (get_end _ _))
  have hT1 := hT.frm hb.frm
  obtain ⟨tb, htb⟩ : ∃ b, b = w.heap.size := ⟨_, rfl⟩
  obtain ⟨w1, hw1⟩ : ∃ w1, w1 = w.alloc (.cells #[.string S, .bool false] 74) := ⟨_, rfl⟩
  rw [← htb] at hb hbi t0 t1
  rw [← hw1] at hb c0 c1 c2 t0 t1 hT1
  have Hw := Lib.hid hw1
  clear h
  go_enter Tryd.func44, Tryd.ntmps44
  go_upto_region 2 with fail
  rw [← htb, ← Hw.out]
  clear hw1 htb Hw
  go_upto_region 3 with fail
  refine wp_region_held_drew (S := fun w' => w'.cell? ⟨o, 0, none⟩ = some (.int .i64 y) ∧ w'.cell? ⟨tb, 0, none⟩ = some (.string S)) (by kernel_rfl) ⟨c0, t0⟩ (fun hHeld => ?_)
  obtain ⟨w2, hw2⟩ : ∃ w2, w2 = w1.drew := ⟨_, rfl⟩
  have hb2 := hb.drew
  have hT2 : Tabs w2 := by rw [hw2]; exact hT1.frm (Frm.refl _ _).drew
  rw [← hw2] at hb2 hHeld ⊢
  have c2' : w2.cell? ⟨o, 0, none⟩ = some (.int .i64 y) ∧ w2.cell? ⟨tb, 0, none⟩ = some (.string S) := by rw [hw2]; exact ⟨c0, t0⟩
  clear hw2 c0 c1 c2 t0 t1 hT1 hb
  refine wpAnyH_take (i := 0) (oi := ⟨some 20, _, _, _, _, _⟩) (v := (.pointer (some ⟨o, 0, none⟩))) rfl (by kernel_rfl) (by kernel_rfl) (by kernel_rfl) (fun _ _ _ h => h) (.inl ⟨by rfl, fun w hw => by dsimp only at hw; go_simp⟩) hHeld ?_
  simp only [Act.put, List.setIfInBounds_toArray, List.set_cons_zero, List.set_cons_succ]
  refine wpAnyH_take (i := 1) (oi := ⟨some 21, _, _, _, _, _⟩) (v := (.pointer (some ⟨o, 0, none⟩))) rfl (by kernel_rfl) (by kernel_rfl) (by kernel_rfl) (fun _ _ _ h => h) (.inl ⟨by rfl, fun w hw => by dsimp only at hw; go_simp⟩) hHeld ?_
  simp only [Act.put, List.setIfInBounds_toArray, List.set_cons_zero, List.set_cons_succ]
  refine wpAnyH_take (i := 2) (oi := ⟨some 22, _, _, _, _, _⟩) (v := (.pointer (some ⟨o, 3, none⟩))) rfl (by kernel_rfl) (by kernel_rfl) (by kernel_rfl) (fun _ _ _ h => h) (.inl ⟨by rfl, fun w hw => by dsimp only at hw; go_simp⟩) hHeld ?_
  simp only [Act.put, List.setIfInBounds_toArray, List.set_cons_zero, List.set_cons_succ]
  refine wpAnyH_take (i := 3) (oi := ⟨some 23, _, _, _, _, _⟩) (v := (.pointer (some ⟨tb, 0, none⟩))) rfl (by kernel_rfl) (by kernel_rfl) (by kernel_rfl) (fun _ _ _ h => h) (.inl ⟨by rfl, fun w hw => by dsimp only at hw; go_simp⟩) hHeld ?_
  simp only [Act.put, List.setIfInBounds_toArray, List.set_cons_zero, List.set_cons_succ]
  refine wpAnyH_take (i := 4) (oi := ⟨some 24, _, _, _, _, _⟩) (v := (.string S)) rfl (by kernel_rfl) (by kernel_rfl) (by kernel_rfl) (fun _ _ _ h => h) (.inl ⟨by rfl, fun w hw => by dsimp only at hw; go_simp⟩) hHeld ?_
  simp only [Act.put, List.setIfInBounds_toArray, List.set_cons_zero, List.set_cons_succ]
  refine wpAnyH_ready (rs := [5]) (by kernel_rfl) (by simp) ?_
  refine AllReadyH.cons (o := ⟨some 25, _, _, _, _, _⟩) rfl (fun K hK => ?_) AllReadyH.nil
  go_simp
  refine (own_write hb2 i hbi S (by omega)).mono ?_
  rintro e4 w4 ⟨rfl, h4⟩
  have f4 := h4.drop1 hil
  have Hf4 := Lib.hid f4
  refine hK.out _ _ ?keep (fun hHeld => ?_)
  case keep =>
    refine ⟨(h4.out (o := o) (y := y) (m := m) (d := d) i (by rw [List.getElem?_set_self (by rw [List.length_append]; omega)])).1, (cells2 (h4.obj (x := tb) (cs := #[.string S, .bool false]) (t := 74) L.length ?_)).1⟩
    rw [List.getElem?_set_ne (by omega)]
    exact get_end _ _
  clear hK K hb2 h4 f4
  refine wpAnyH_done (by kernel_rfl) ?_ _
  clear hHeld
  go_wp2_with fail
  go_end0
  exact ⟨rfl, Hf4.out⟩

theorem own_put (h : Own w0 L w) (hT : Tabs w0) {o y m d : Nat} {l : List UInt8} (i : Nat) (hi : L[i]? = some (outT o y m d l)) (hy : y ≤ 100000) (hm : m ≤ 100000) (hd : d ≤ 100000) (hl : l.length ≤ 1000000) (t : List UInt8) (ht : Form t) :
    Calls Tryd.prog 44 #[.pointer (some ⟨o, 0, none⟩), tokV t] w fun e w' => e = .returned (.tuple #[]) ∧ Own w0 (L.set i (outT o y m d (l ++ fmtP y m d t))) w' := by
  cases ht with
  | field hf =>
    rcases field_cases hf with rfl | rfl | rfl | rfl | rfl
    · exact own_put_Y h hT i hi hy hm hd hl
    · exact own_put_MM h hT i hi hy hm hd hl
    · exact own_put_M h hT i hi hy hm hd hl
    · exact own_put_DD h hT i hi hy hm hd hl
    · exact own_put_D h hT i hi hy hm hd hl
  | one c hc h1 h2 =>
    subst hc
    have hn := one_notF h1 h2
    have hr : fmtP y m d [c] = [c] := by
      simp [fmtP, fY, fMM, fM, fDD, fD, h1, h2]
    rw [hr]
    unfold tokV strV
    rw [hn]
    exact own_put_one h hT i hi hy hm hd hl ⟨#[c]⟩ (Nat.le_refl _)
end Go.Proofs.YtmpfgdpicbpedaaDoor
