/-
  Parts of a layout: what the code of date does. Conditions: the layout is within reach.
-/
import Derived.Test.YtmpfgdpicbpedaaDoorStr
import Derived.Test.YtmpfgdpicbpedaaDoorRange
namespace Go.Proofs.YtmpfgdpicbpedaaDoor
open Go.RowKit Go.Shelf
attribute [local go_sem] Oper.semAt_some

/-- A token. -/
def tokV (t : List UInt8) : Value := .agg #[strV t, .bool (isF t)]
def flds : List (List UInt8) := [fY, fMM, fM, fDD, fD]
theorem fst_at (l : List UInt8) (i : Nat) (hi : i < 5) (hno : ∀ k, k < i → (flds.getD k []).isPrefixOf l = false) (hy : (flds.getD i []).isPrefixOf l = true) : fst l = flds.getD i [] ∧ isF (fst l) = true := by
  have key : fst l = flds.getD i [] := by
    unfold fst
    match i, hi with
    | 0, _ => exact if_pos hy
    | 1, _ =>
      have h0 : fY.isPrefixOf l = false := hno 0 (by decide)
      rw [if_neg (by rw [h0]; decide)]
      exact if_pos hy
    | 2, _ =>
      have h0 : fY.isPrefixOf l = false := hno 0 (by decide)
      have h1 : fMM.isPrefixOf l = false := hno 1 (by decide)
      rw [if_neg (by rw [h0]; decide), if_neg (by rw [h1]; decide)]
      exact if_pos hy
    | 3, _ =>
      have h0 : fY.isPrefixOf l = false := hno 0 (by decide)
      have h1 : fMM.isPrefixOf l = false := hno 1 (by decide)
      have h2 : fM.isPrefixOf l = false := hno 2 (by decide)
      rw [if_neg (by rw [h0]; decide), if_neg (by rw [h1]; decide), if_neg (by rw [h2]; decide)]
      exact if_pos hy
    | 4, _ =>
      have h0 : fY.isPrefixOf l = false := hno 0 (by decide)
      have h1 : fMM.isPrefixOf l = false := hno 1 (by decide)
      have h2 : fM.isPrefixOf l = false := hno 2 (by decide)
      have h3 : fDD.isPrefixOf l = false := hno 3 (by decide)
      rw [if_neg (by rw [h0]; decide), if_neg (by rw [h1]; decide), if_neg (by rw [h2]; decide), if_neg (by rw [h3]; decide)]
      exact if_pos hy
  refine ⟨key, ?_⟩
  rw [key]
  match i, hi with
  | 0, _ => rfl
  | 1, _ => rfl
  | 2, _ => rfl
  | 3, _ => rfl
  | 4, _ => rfl
theorem fst_none (l : List UInt8) (hl : l ≠ []) (hno : ∀ k, k < 5 → (flds.getD k []).isPrefixOf l = false) : fst l = l.take 1 ∧ isF (fst l) = false := by
  have h0 : fY.isPrefixOf l = false := hno 0 (by decide)
  have h1 : fMM.isPrefixOf l = false := hno 1 (by decide)
  have h2 : fM.isPrefixOf l = false := hno 2 (by decide)
  have h3 : fDD.isPrefixOf l = false := hno 3 (by decide)
  have h4 : fD.isPrefixOf l = false := hno 4 (by decide)
  have key : fst l = l.take 1 := by
    unfold fst
    rw [if_neg (by rw [h0]; decide), if_neg (by rw [h1]; decide), if_neg (by rw [h2]; decide), if_neg (by rw [h3]; decide), if_neg (by rw [h4]; decide)]
  refine ⟨key, ?_⟩
  rw [key]
  cases l with
  | nil => exact absurd rfl hl
  | cons a l =>
    refine one_notF (fun e => ?_) (fun e => ?_)
    · subst e
      exact absurd h2 (by simp [fM])
    · subst e
      exact absurd h4 (by simp [fD])

theorem cells2 {w : World} {x : Nat} {a b : Value} {t : TypeId} (h : w.heap[x]? = some (.cells #[a, b] t (0, 0))) :
    w.cell? ⟨x, 0, none⟩ = some a ∧ w.cell? ⟨x, 1, none⟩ = some b ∧ w.frozen? ⟨x, 0, none⟩ = false ∧ w.frozen? ⟨x, 1, none⟩ = false := by
  refine ⟨?_, ?_, ?_, ?_⟩ <;> first | (rw [cell_of_row w x _ _ t _ h]; rfl) | exact frozen_of_row w x _ _ t h
theorem snoc_no {l : List UInt8} {k : Nat} (h : ∀ j, j < k → (flds.getD j []).isPrefixOf l = false) (hk : (flds.getD k []).isPrefixOf l = false) : ∀ j, j < k + 1 → (flds.getD j []).isPrefixOf l = false := by
  intro j hj
  rcases (show j < k ∨ j = k by omega) with h1 | rfl
  · exact h j h1
  · exact hk

set_option maxRecDepth 100000 in
set_option maxHeartbeats 4000000 in
theorem first_tok (s : ByteArray) (h0 : 0 < s.size) (hs : s.size ≤ 9223372036854775807) (w : World) : Calls Tryd.prog 59 #[.string s] w fun e w' => e = .returned (tokV (fst s.data.toList)) ∧ Frm (fun _ => False) w w' := by
  have ix0 : ∀ w, (Instr.index 91 (.agg #[.string ⟨#[89, 89, 89, 89]⟩, .string ⟨#[77, 77]⟩, .string ⟨#[77]⟩, .string ⟨#[68, 68]⟩, .string ⟨#[68]⟩]) (.int .i64 0)).run Tryd.prog w = .ok (.string ⟨#[89, 89, 89, 89]⟩) w := fun _ => by kernel_rfl
  have ix1 : ∀ w, (Instr.index 91 (.agg #[.string ⟨#[89, 89, 89, 89]⟩, .string ⟨#[77, 77]⟩, .string ⟨#[77]⟩, .string ⟨#[68, 68]⟩, .string ⟨#[68]⟩]) (.int .i64 1)).run Tryd.prog w = .ok (.string ⟨#[77, 77]⟩) w := fun _ => by kernel_rfl
  have ix2 : ∀ w, (Instr.index 91 (.agg #[.string ⟨#[89, 89, 89, 89]⟩, .string ⟨#[77, 77]⟩, .string ⟨#[77]⟩, .string ⟨#[68, 68]⟩, .string ⟨#[68]⟩]) (.int .i64 2)).run Tryd.prog w = .ok (.string ⟨#[77]⟩) w := fun _ => by kernel_rfl
  have ix3 : ∀ w, (Instr.index 91 (.agg #[.string ⟨#[89, 89, 89, 89]⟩, .string ⟨#[77, 77]⟩, .string ⟨#[77]⟩, .string ⟨#[68, 68]⟩, .string ⟨#[68]⟩]) (.int .i64 3)).run Tryd.prog w = .ok (.string ⟨#[68, 68]⟩) w := fun _ => by kernel_rfl
  have ix4 : ∀ w, (Instr.index 91 (.agg #[.string ⟨#[89, 89, 89, 89]⟩, .string ⟨#[77, 77]⟩, .string ⟨#[77]⟩, .string ⟨#[68, 68]⟩, .string ⟨#[68]⟩]) (.int .i64 4)).run Tryd.prog w = .ok (.string ⟨#[68]⟩) w := fun _ => by kernel_rfl
  have hl := size_toList s
  have Hl := Lib.hid hl
  clear hl
  go_enter Tryd.func59, Tryd.ntmps59
  go_wp2_with fail
  obtain ⟨w1, hw1⟩ : ∃ w', w' = w.alloc (.cells #[.string ⟨#[]⟩, .bool false] 74) := ⟨_, rfl⟩
  obtain ⟨rb, hrb⟩ : ∃ b, b = w.heap.size := ⟨_, rfl⟩
  have hO := (Own.start w).box #[.string ⟨#[]⟩, .bool false] 74
  rw [← hw1, ← hrb] at hO ⊢
  clear hw1 hrb
  go_loop [6] (fun i => ∃ k : Nat, i = .int .i64 k ∧ k ≤ 5 ∧ Hid (∀ j, j < k → (flds.getD j []).isPrefixOf s.data.toList = false)) (fun i => 5 - (intOf i).toNat)
  case atStart => exact ⟨0, rfl, by omega, fun j h => absurd h (Nat.not_lt_zero _)⟩
  case round =>
    obtain ⟨k, rfl, hk, hno⟩ := hrel
    obtain ⟨c0, c1, f0, f1⟩ := cells2 (hO.obj (x := rb) (cs := #[.string ⟨#[]⟩, .bool false]) (t := 74) 0 rfl)
    rcases (show k = 0 ∨ k = 1 ∨ k = 2 ∨ k = 3 ∨ k = 4 ∨ k = 5 by omega) with h | h | h | h | h | h
    · subst h
      have hc := Tryd.strings_HasPrefix s ⟨#[89, 89, 89, 89]⟩ w1
      cases hp : (flds.getD 0 []).isPrefixOf s.data.toList
      · rw [show Lib.hasPrefix s.data.toList (⟨#[89, 89, 89, 89]⟩ : ByteArray).data.toList = false from hp] at hc
        have Hc := Lib.hid hc
        have Hp := Lib.hid hp
        clear hc hp
        go_wp2_with (go_at_call 64; refine Hc.out.mono ?_; rintro e w' ⟨rfl, rfl⟩)
        go_round
        case rel => exact ⟨1, rfl, by decide, snoc_no hno.out Hp.out⟩
        case measure => simp [intOf]
      · rw [show Lib.hasPrefix s.data.toList (⟨#[89, 89, 89, 89]⟩ : ByteArray).data.toList = true from hp] at hc
        have Hc := Lib.hid hc
        have Hf := Lib.hid (fst_at s.data.toList 0 (by decide) hno.out hp)
        clear hc hp
        go_wp2_with (go_at_call 64; refine Hc.out.mono ?_; rintro e w' ⟨rfl, rfl⟩)
        have hO2 := (hO.store 0 rfl 0 (.string ⟨#[89, 89, 89, 89]⟩)).store 0 rfl 1 (.bool true)
        obtain ⟨d0, d1, -⟩ := cells2 (hO2.obj (x := rb) (cs := #[.string ⟨#[89, 89, 89, 89]⟩, .bool true]) (t := 74) 0 rfl)
        have he : Ending.returned (.agg #[.string ⟨#[89, 89, 89, 89]⟩, .bool true]) = .returned (tokV (fst s.data.toList)) := by unfold tokV; rw [Hf.out.2, Hf.out.1]; rfl
        exact bodyPost_ret (v := .agg #[.string ⟨#[89, 89, 89, 89]⟩, .bool true]) (by simp [results, Tryd.results59, go_sem, d0, d1]) rfl ⟨he, hO2.frm⟩
    · subst h
      have hc := Tryd.strings_HasPrefix s ⟨#[77, 77]⟩ w1
      cases hp : (flds.getD 1 []).isPrefixOf s.data.toList
      · rw [show Lib.hasPrefix s.data.toList (⟨#[77, 77]⟩ : ByteArray).data.toList = false from hp] at hc
        have Hc := Lib.hid hc
        have Hp := Lib.hid hp
        clear hc hp
        go_wp2_with (go_at_call 64; refine Hc.out.mono ?_; rintro e w' ⟨rfl, rfl⟩)
        go_round
        case rel => exact ⟨2, rfl, by decide, snoc_no hno.out Hp.out⟩
        case measure => simp [intOf]
      · rw [show Lib.hasPrefix s.data.toList (⟨#[77, 77]⟩ : ByteArray).data.toList = true from hp] at hc
        have Hc := Lib.hid hc
        have Hf := Lib.hid (fst_at s.data.toList 1 (by decide) hno.out hp)
        clear hc hp
        go_wp2_with (go_at_call 64; refine Hc.out.mono ?_; rintro e w' ⟨rfl, rfl⟩)
        have hO2 := (hO.store 0 rfl 0 (.string ⟨#[77, 77]⟩)).store 0 rfl 1 (.bool true)
        obtain ⟨d0, d1, -⟩ := cells2 (hO2.obj (x := rb) (cs := #[.string ⟨#[77, 77]⟩, .bool true]) (t := 74) 0 rfl)
        have he : Ending.returned (.agg #[.string ⟨#[77, 77]⟩, .bool true]) = .returned (tokV (fst s.data.toList)) := by unfold tokV; rw [Hf.out.2, Hf.out.1]; rfl
        exact bodyPost_ret (v := .agg #[.string ⟨#[77, 77]⟩, .bool true]) (by simp [results, Tryd.results59, go_sem, d0, d1]) rfl ⟨he, hO2.frm⟩
    · subst h
      have hc := Tryd.strings_HasPrefix s ⟨#[77]⟩ w1
      cases hp : (flds.getD 2 []).isPrefixOf s.data.toList
      · rw [show Lib.hasPrefix s.data.toList (⟨#[77]⟩ : ByteArray).data.toList = false from hp] at hc
        have Hc := Lib.hid hc
        have Hp := Lib.hid hp
        clear hc hp
        go_wp2_with (go_at_call 64; refine Hc.out.mono ?_; rintro e w' ⟨rfl, rfl⟩)
        go_round
        case rel => exact ⟨3, rfl, by decide, snoc_no hno.out Hp.out⟩
        case measure => simp [intOf]
      · rw [show Lib.hasPrefix s.data.toList (⟨#[77]⟩ : ByteArray).data.toList = true from hp] at hc
        have Hc := Lib.hid hc
        have Hf := Lib.hid (fst_at s.data.toList 2 (by decide) hno.out hp)
        clear hc hp
        go_wp2_with (go_at_call 64; refine Hc.out.mono ?_; rintro e w' ⟨rfl, rfl⟩)
        have hO2 := (hO.store 0 rfl 0 (.string ⟨#[77]⟩)).store 0 rfl 1 (.bool true)
        obtain ⟨d0, d1, -⟩ := cells2 (hO2.obj (x := rb) (cs := #[.string ⟨#[77]⟩, .bool true]) (t := 74) 0 rfl)
        have he : Ending.returned (.agg #[.string ⟨#[77]⟩, .bool true]) = .returned (tokV (fst s.data.toList)) := by unfold tokV; rw [Hf.out.2, Hf.out.1]; rfl
        exact bodyPost_ret (v := .agg #[.string ⟨#[77]⟩, .bool true]) (by simp [results, Tryd.results59, go_sem, d0, d1]) rfl ⟨he, hO2.frm⟩
    · subst h
      have hc := Tryd.strings_HasPrefix s ⟨#[68, 68]⟩ w1
      cases hp : (flds.getD 3 []).isPrefixOf s.data.toList
      · rw [show Lib.hasPrefix s.data.toList (⟨#[68, 68]⟩ : ByteArray).data.toList = false from hp] at hc
        have Hc := Lib.hid hc
        have Hp := Lib.hid hp
        clear hc hp
        go_wp2_with (go_at_call 64; refine Hc.out.mono ?_; rintro e w' ⟨rfl, rfl⟩)
        go_round
        case rel => exact ⟨4, rfl, by decide, snoc_no hno.out Hp.out⟩
        case measure => simp [intOf]
      · rw [show Lib.hasPrefix s.data.toList (⟨#[68, 68]⟩ : ByteArray).data.toList = true from hp] at hc
        have Hc := Lib.hid hc
        have Hf := Lib.hid (fst_at s.data.toList 3 (by decide) hno.out hp)
        clear hc hp
        go_wp2_with (go_at_call 64; refine Hc.out.mono ?_; rintro e w' ⟨rfl, rfl⟩)
        have hO2 := (hO.store 0 rfl 0 (.string ⟨#[68, 68]⟩)).store 0 rfl 1 (.bool true)
        obtain ⟨d0, d1, -⟩ := cells2 (hO2.obj (x := rb) (cs := #[.string ⟨#[68, 68]⟩, .bool true]) (t := 74) 0 rfl)
        have he : Ending.returned (.agg #[.string ⟨#[68, 68]⟩, .bool true]) = .returned (tokV (fst s.data.toList)) := by unfold tokV; rw [Hf.out.2, Hf.out.1]; rfl
        exact bodyPost_ret (v := .agg #[.string ⟨#[68, 68]⟩, .bool true]) (by simp [results, Tryd.results59, go_sem, d0, d1]) rfl ⟨he, hO2.frm⟩
    · subst h
      have hc := Tryd.strings_HasPrefix s ⟨#[68]⟩ w1
      cases hp : (flds.getD 4 []).isPrefixOf s.data.toList
      · rw [show Lib.hasPrefix s.data.toList (⟨#[68]⟩ : ByteArray).data.toList = false from hp] at hc
        have Hc := Lib.hid hc
        have Hp := Lib.hid hp
        clear hc hp
        go_wp2_with (go_at_call 64; refine Hc.out.mono ?_; rintro e w' ⟨rfl, rfl⟩)
        go_round
        case rel => exact ⟨5, rfl, by decide, snoc_no hno.out Hp.out⟩
        case measure => simp [intOf]
      · rw [show Lib.hasPrefix s.data.toList (⟨#[68]⟩ : ByteArray).data.toList = true from hp] at hc
        have Hc := Lib.hid hc
        have Hf := Lib.hid (fst_at s.data.toList 4 (by decide) hno.out hp)
        clear hc hp
        go_wp2_with (go_at_call 64; refine Hc.out.mono ?_; rintro e w' ⟨rfl, rfl⟩)
        have hO2 := (hO.store 0 rfl 0 (.string ⟨#[68]⟩)).store 0 rfl 1 (.bool true)
        obtain ⟨d0, d1, -⟩ := cells2 (hO2.obj (x := rb) (cs := #[.string ⟨#[68]⟩, .bool true]) (t := 74) 0 rfl)
        have he : Ending.returned (.agg #[.string ⟨#[68]⟩, .bool true]) = .returned (tokV (fst s.data.toList)) := by unfold tokV; rw [Hf.out.2, Hf.out.1]; rfl
        exact bodyPost_ret (v := .agg #[.string ⟨#[68]⟩, .bool true]) (by simp [results, Tryd.results59, go_sem, d0, d1]) rfl ⟨he, hO2.frm⟩
    · subst h
      have Hf := Lib.hid (fst_none s.data.toList (fun e => by have := Hl.out; rw [e] at this; simp at this; omega) hno.out)
      go_wp2_with fail
      have hO2 := (hO.store 0 rfl 0 (.string (s.extract 0 1))).store 0 rfl 1 (.bool false)
      obtain ⟨d0, d1, -⟩ := cells2 (hO2.obj (x := rb) (cs := #[.string (s.extract 0 1), .bool false]) (t := 74) 0 rfl)
      have he : Ending.returned (.agg #[.string (s.extract 0 1), .bool false]) = .returned (tokV (fst s.data.toList)) := by
        unfold tokV strV
        rw [Hf.out.2, Hf.out.1, show s.extract 0 1 = ⟨(s.data.toList.take 1).toArray⟩ from by apply WideShapes.bytes_inj; rw [Lib.extract_data]; simp]
      exact bodyPost_ret (v := .agg #[.string (s.extract 0 1), .bool false]) (by simp [results, Tryd.results59, go_sem, d0, d1]) rfl ⟨he, hO2.frm⟩
end Go.Proofs.YtmpfgdpicbpedaaDoor
