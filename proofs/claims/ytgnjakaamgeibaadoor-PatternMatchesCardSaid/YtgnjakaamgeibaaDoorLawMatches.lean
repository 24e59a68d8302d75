/-
  PatternMatches: the law returns true. Conditions: the laid tables; the arguments lie in memory.
-/
import Derived.Test.YtgnjakaamgeibaaDoorSmp
import Derived.Test.YtgnjakaamgeibaaDoorSan5
import Derived.Test.YtgnjakaamgeibaaDoorSme
import Derived.Test.YtgnjakaamgeibaaDoorMch
import Derived.Test.YtgnjakaamgeibaaDoorREn
import Derived.Test.YtgnjakaamgeibaaDoorRPar
import Derived.Deep.CutRange
namespace Go.Proofs.YtgnjakaamgeibaaDoor
open Go.RowKit Go.Shelf
attribute [local go_sem] Oper.semAt_some

/-! ### A new block of five strings -/
structure Bx (w0 w : World) (g : Nat) : Prop where
  frm : Frm (fun _ => False) w0 w
  new : w0.heap.size ≤ g
  row : ∃ u0 u1 u2 u3 u4, w.heap[g]? = some (.cells #[u0, u1, u2, u3, u4] 64 (0, 0))
theorem Bx.still {w0 w w' : World} {g : Nat} (h : Bx w0 w g) (f : Frm (fun _ => False) w w') : Bx w0 w' g := by
  obtain ⟨u0, u1, u2, u3, u4, hr⟩ := h.row
  exact ⟨h.frm.trans f, h.new, u0, u1, u2, u3, u4, f.heap hr (fun h => h)⟩
theorem Bx.start (w0 w : World) (f : Frm (fun _ => False) w0 w) : Bx w0 (w.alloc (.cells #[.string ⟨#[]⟩, .string ⟨#[]⟩, .string ⟨#[]⟩, .string ⟨#[]⟩, .string ⟨#[]⟩] 64)) w.heap.size :=
  ⟨f.alloc _, f.size, _, _, _, _, _, heap_alloc_new w _⟩
theorem Bx.facts {w0 w : World} {g : Nat} (h : Bx w0 w g) : ∃ u0 u1 u2 u3 u4, (w.cell? ⟨g, 0, none⟩ = some u0 ∧ w.cell? ⟨g, 1, none⟩ = some u1 ∧ w.cell? ⟨g, 2, none⟩ = some u2 ∧ w.cell? ⟨g, 3, none⟩ = some u3 ∧ w.cell? ⟨g, 4, none⟩ = some u4) ∧ (w.frozen? ⟨g, 0, none⟩ = false ∧ w.frozen? ⟨g, 1, none⟩ = false ∧ w.frozen? ⟨g, 2, none⟩ = false ∧ w.frozen? ⟨g, 3, none⟩ = false ∧ w.frozen? ⟨g, 4, none⟩ = false) := by
  obtain ⟨u0, u1, u2, u3, u4, hr⟩ := h.row
  exact ⟨u0, u1, u2, u3, u4, ⟨by rw [cell_of_row _ _ _ _ _ _ hr]; rfl, by rw [cell_of_row _ _ _ _ _ _ hr]; rfl, by rw [cell_of_row _ _ _ _ _ _ hr]; rfl, by rw [cell_of_row _ _ _ _ _ _ hr]; rfl, by rw [cell_of_row _ _ _ _ _ _ hr]; rfl⟩, frozen_of_row _ _ _ _ _ hr, frozen_of_row _ _ _ _ _ hr, frozen_of_row _ _ _ _ _ hr, frozen_of_row _ _ _ _ _ hr, frozen_of_row _ _ _ _ _ hr⟩
theorem cell_oth {w : World} {x g i j : Nat} {v u : Value} (h : x ≠ g) (hc : w.cell? ⟨x, i, none⟩ = some v) : (w.setCell ⟨g, j, none⟩ u).cell? ⟨x, i, none⟩ = some v := by
  have hb : x < w.heap.size := World.block_lt_of_cell? w _ hc
  exact (World.cell?_of_block (w := w) (a := ⟨x, i, none⟩) (heap_setCell_other w ⟨g, j, none⟩ x u h)).trans hc
theorem Bx.set {w0 w : World} {g : Nat} (h : Bx w0 w g) (v0 v1 v2 v3 v4 : Value) : (((((w.setCell ⟨g, 0, none⟩ v0).setCell ⟨g, 1, none⟩ v1).setCell ⟨g, 2, none⟩ v2).setCell ⟨g, 3, none⟩ v3).setCell ⟨g, 4, none⟩ v4).heap[g]? = some (.cells #[v0, v1, v2, v3, v4] 64 (0, 0)) ∧
    Frm (fun _ => False) w0 (((((w.setCell ⟨g, 0, none⟩ v0).setCell ⟨g, 1, none⟩ v1).setCell ⟨g, 2, none⟩ v2).setCell ⟨g, 3, none⟩ v3).setCell ⟨g, 4, none⟩ v4) := by
  obtain ⟨u0, u1, u2, u3, u4, hr⟩ := h.row
  refine ⟨heap_set (heap_set (heap_set (heap_set (heap_set hr v0) v1) v2) v3) v4, ?_⟩
  exact ((((h.frm.setCell (.inr h.new) v0).setCell (.inr h.new) v1).setCell (.inr h.new) v2).setCell (.inr h.new) v3).setCell (.inr h.new) v4
theorem Bx.put {w0 w : World} {g : Nat} (h : Bx w0 w g) (v0 v1 v2 v3 v4 : Value) : ∃ W, (((((w.setCell ⟨g, 0, none⟩ v0).setCell ⟨g, 1, none⟩ v1).setCell ⟨g, 2, none⟩ v2).setCell ⟨g, 3, none⟩ v3).setCell ⟨g, 4, none⟩ v4) = W ∧
    W.heap[g]? = some (.cells #[v0, v1, v2, v3, v4] 64 (0, 0)) ∧ Bx w0 W g ∧ (∀ x i v, x ≠ g → w.cell? ⟨x, i, none⟩ = some v → W.cell? ⟨x, i, none⟩ = some v) := by
  obtain ⟨h1, h2⟩ := h.set v0 v1 v2 v3 v4
  exact ⟨_, rfl, h1, ⟨h2, h.new, _, _, _, _, _, h1⟩, fun x i v hx hc => cell_oth hx (cell_oth hx (cell_oth hx (cell_oth hx (cell_oth hx hc))))⟩
theorem five_at {w : World} {g : Nat} {s0 s1 s2 s3 s4 : ByteArray} (h : w.heap[g]? = some (.cells #[.string s0, .string s1, .string s2, .string s3, .string s4] 64 (0, 0))) (h0 : s0.size ≤ 3000) (h1 : s1.size ≤ 3000) (h2 : s2.size ≤ 3000) (h3 : s3.size ≤ 3000) (h4 : s4.size ≤ 3000) (i : Nat) (hi : i < 5) : ∃ T : ByteArray, T.size ≤ 3000 ∧ w.cell? ⟨g, i, none⟩ = some (.string T) := by
  match i, hi with
  | 0, _ => exact ⟨s0, h0, by rw [cell_of_row _ _ _ _ _ _ h]; rfl⟩
  | 1, _ => exact ⟨s1, h1, by rw [cell_of_row _ _ _ _ _ _ h]; rfl⟩
  | 2, _ => exact ⟨s2, h2, by rw [cell_of_row _ _ _ _ _ _ h]; rfl⟩
  | 3, _ => exact ⟨s3, h3, by rw [cell_of_row _ _ _ _ _ _ h]; rfl⟩
  | 4, _ => exact ⟨s4, h4, by rw [cell_of_row _ _ _ _ _ _ h]; rfl⟩
theorem str_to (b : ByteArray) (n : Nat) (h : n ≤ b.size) (W : World) : (Instr.slice 9 (.string b) none (some (.int .i64 (n : Int))) none).run Tryd.prog W = .ok (.string (b.extract 0 n)) W := by
  have := run_slice_string_h (P := Tryd.prog) (w := W) (t := 9) (s := b) Tryd.underlying9 .i64 (n : Int) (by omega) (by omega)
  rw [this, Int.toNat_natCast]
theorem str_from (b : ByteArray) (n : Nat) (h : n ≤ b.size) (W : World) : (Instr.slice 9 (.string b) (some (.int .i64 (n : Int))) none none).run Tryd.prog W = .ok (.string (b.extract n b.size)) W := by
  have := run_slice_string_l (P := Tryd.prog) (w := W) (t := 9) (s := b) Tryd.underlying9 .i64 (n : Int) (by omega) (by omega)
  rw [this, Int.toNat_natCast]
/-- A sample, as a string. -/
theorem sample_s {v : Value} {ps : List Pc} {ao : Option Addr} {n cap : Nat} {l : List Int} (w : World) (hP : Pcs w v ps) (hok : MdOk 5 ps) (hI : IntsAt w ao l) (hn : l.length = n) (hb : n ≤ maxLen) :
    Calls Tryd.prog 40 #[v, .slice ao n cap] w fun e w' => ∃ S : ByteArray, e = .returned (.string S) ∧ S.size ≤ 1000 ∧ Frm (fun _ => False) w w' := by
  refine (sample_any w hP (fun p hp => (hok.pc p hp).1) (fun p hp => by have := (hok.pc p hp).2; omega) hok.len hI hn hb).mono ?_
  rintro e w' ⟨rfl, hl, f⟩
  exact ⟨⟨(smpL ps l).toArray⟩, rfl, by show (smpL ps l).toArray.size ≤ 1000; rw [List.size_toArray]; exact hl, f⟩

set_option maxRecDepth 100000 in
set_option maxHeartbeats 8000000 in
theorem law_matches {ao ao1 ao2 : Option Addr} {n cap n1 cap1 n2 cap2 : Nat} {l l1 l2 : List Int} (e : Int) (c : UInt8) (q : ByteArray) (w : World) (hT : Tabs w) (hI : IntsAt w ao l) (hn : l.length = n) (hb : n ≤ maxLen) (hI1 : IntsAt w ao1 l1) (hn1 : l1.length = n1) (hb1 : n1 ≤ maxLen) (hI2 : IntsAt w ao2 l2) (hn2 : l2.length = n2) (hb2 : n2 ≤ maxLen) (he : -9223372036854775808 ≤ e ∧ e ≤ 9223372036854775807) (hq : q.size ≤ 9223372036854775807) :
    Calls Tryd.prog 8 #[.agg #[.slice ao n cap, .slice ao1 n1 cap1], .slice ao2 n2 cap2, .agg #[.int .i64 e, .int .u8 c.toNat, .string q]] w fun e w' => e = .returned (.bool true) ∧ Frm (fun _ => False) w w' := by
  have HT := Lib.hid hT
  have HI := Lib.hid hI
  have HI1 := Lib.hid hI1
  have HI2 := Lib.hid hI2
  have Hn := Lib.hid hn
  have Hn1 := Lib.hid hn1
  have Hn2 := Lib.hid hn2
  have hct := cut_any q hq 203 (by decide)
  have hqz : (q.extract 0 (min q.size 203)).size ≤ 203 := by rw [ByteArray.size_extract]; omega
  generalize q.extract 0 (min q.size 203) = E at *
  have Hct := Lib.hid hct
  clear hT hI hI1 hI2 hn hn1 hn2 hct
  go_enter Tryd.func8, Tryd.ntmps8
  go_upto_region 1 with fail
  have hN := heap_alloc_new w (.cells #[.slice ao n cap, .slice ao1 n1 cap1] 58)
  have hF0 := (Frm.refl (fun _ => False) w).alloc (.cells #[.slice ao n cap, .slice ao1 n1 cap1] 58)
  obtain ⟨W1, hW1⟩ : ∃ W, W = w.alloc (.cells #[.slice ao n cap, .slice ao1 n1 cap1] 58) := ⟨_, rfl⟩
  have hsz : W1.heap.size = w.heap.size + 1 := by rw [hW1]; simp
  obtain ⟨xb, hxb⟩ : ∃ b, b = w.heap.size := ⟨_, rfl⟩
  rw [← hW1, ← hxb] at hN
  rw [← hW1] at hF0
  rw [← hW1, ← hsz, ← hxb]
  have hM := heap_alloc_new W1 (.cells #[.int .i64 e, .int .u8 c.toNat, .string q] 60)
  have hF1 := (Frm.refl (fun _ => False) W1).alloc (.cells #[.int .i64 e, .int .u8 c.toNat, .string q] 60)
  obtain ⟨W2, hW2⟩ : ∃ W, W = W1.alloc (.cells #[.int .i64 e, .int .u8 c.toNat, .string q] 60) := ⟨_, rfl⟩
  obtain ⟨yb, hyb⟩ : ∃ b, b = W1.heap.size := ⟨_, rfl⟩
  rw [← hW2, ← hyb] at hM
  rw [← hW2] at hF1
  rw [← hW2, ← hyb]
  have hN := hF1.heap hN (fun h => h)
  have a0 : W2.cell? ⟨xb, 0, none⟩ = some (.slice ao n cap) := by rw [cell_of_row _ _ _ _ _ _ hN]; rfl
  have a1 : W2.cell? ⟨xb, 1, none⟩ = some (.slice ao1 n1 cap1) := by rw [cell_of_row _ _ _ _ _ _ hN]; rfl
  have y0 : W2.cell? ⟨yb, 0, none⟩ = some (.int .i64 e) := by rw [cell_of_row _ _ _ _ _ _ hM]; rfl
  have y1 : W2.cell? ⟨yb, 1, none⟩ = some (.int .u8 c.toNat) := by rw [cell_of_row _ _ _ _ _ _ hM]; rfl
  have y2 : W2.cell? ⟨yb, 2, none⟩ = some (.string q) := by rw [cell_of_row _ _ _ _ _ _ hM]; rfl
  have HF := Lib.hid (hF0.trans hF1)
  clear hW1 hxb hW2 hyb hN hM hF0 hF1 hsz
  go_wp2_with fail
  refine (sanity5_any _ (HT.out.frm HF.out)).mono ?_
  rintro e w1 ⟨rfl, f⟩
  have a0 := f.cell a0 (fun h => h)
  have a1 := f.cell a1 (fun h => h)
  have y0 := f.cell y0 (fun h => h)
  have y1 := f.cell y1 (fun h => h)
  have y2 := f.cell y2 (fun h => h)
  have HF := Lib.hid (HF.out.trans f)
  clear f
  go_wp2_with fail
  refine (made_any w1 (HI.out.still HF.out) Hn.out hb).mono ?_
  rintro e w2 ⟨v8, rfl, hP8, f⟩
  have a1 := f.cell a1 (fun h => h)
  have y0 := f.cell y0 (fun h => h)
  have y1 := f.cell y1 (fun h => h)
  have y2 := f.cell y2 (fun h => h)
  have hok := made_ok l
  obtain ⟨hs8, hl8⟩ := md_small hok (Nat.le_refl _)
  generalize madeL l = ps at *
  have HF := Lib.hid (HF.out.trans f)
  have HP8 := Lib.hid hP8
  clear f hP8 a0
  go_wp2_with fail
  refine (made_any w2 (HI1.out.still HF.out) Hn1.out hb1).mono ?_
  rintro e w3 ⟨v9, rfl, hP9, f⟩
  have y0 := f.cell y0 (fun h => h)
  have y1 := f.cell y1 (fun h => h)
  have y2 := f.cell y2 (fun h => h)
  have hok9 := made_ok l1
  obtain ⟨hs9, hl9⟩ := md_small hok9 (Nat.le_refl _)
  generalize madeL l1 = qs at *
  have HF := Lib.hid (HF.out.trans f)
  have HP8 := Lib.hid (HP8.out.still f)
  have HP9 := Lib.hid hP9
  clear f hP9 a1
  have hsm := sample_s (cap := cap2) w3 HP8.out hok (HI2.out.still HF.out) Hn2.out hb2
  have hsm9 := fun (W : World) (f : Frm (fun _ => False) w3 W) => sample_s (cap := cap2) W (HP9.out.still f) hok9 (HI2.out.still (HF.out.trans f)) Hn2.out hb2
  have Hsm := Lib.hid hsm
  have Hsm9 := Lib.hid hsm9
  clear hsm hsm9 hok hok9
  go_wp2_with fail
  refine Hsm.out.mono ?_
  rintro e1 w4 ⟨S, rfl, hSz, f⟩
  have y0 := f.cell y0 (fun h => h)
  have y1 := f.cell y1 (fun h => h)
  have y2 := f.cell y2 (fun h => h)
  have Hf := Lib.hid f
  clear f Hsm
  obtain ⟨k, hk, hkS⟩ : ∃ k : Nat, e % ((S.size : Int) + 1) = k ∧ k ≤ S.size := ⟨(e % ((S.size : Int) + 1)).toNat, by have := Int.emod_nonneg e (show ((S.size : Int) + 1) ≠ 0 by omega); omega, by have := Int.emod_lt_of_pos e (show (0 : Int) < (S.size : Int) + 1 by omega); omega⟩
  have hmd := fun (W : World) => mod_any e ((S.size : Int) + 1) W (by omega) (by omega) he.1 he.2
  rw [hk] at hmd
  have Hmd := Lib.hid hmd
  clear hmd hk he
  go_wp2_with fail
  refine (Hmd.out _).mono ?_
  rintro e2 w5 ⟨rfl, rfl⟩
  have hcv := conv_one c w4
  obtain ⟨C, hC⟩ : ∃ C : ByteArray, C = ⟨#[c]⟩ := ⟨_, rfl⟩
  have hCz : C.size ≤ 1 := by rw [hC]; exact Nat.le_refl _
  rw [← hC] at hcv
  have hs1 := str_to S k hkS
  have hs2 := str_from S (min (k + 1) S.size) (by omega)
  have e1 : min ((k : Int) + 1) (S.size : Int) = ((min (k + 1) S.size : Nat) : Int) := by omega
  have zA : (S.extract 0 k).size ≤ 1000 := by rw [ByteArray.size_extract]; omega
  have zB : (S.extract (min (k + 1) S.size) S.size).size ≤ 1000 := by rw [ByteArray.size_extract]; omega
  generalize S.extract 0 k = A at *
  generalize S.extract (min (k + 1) S.size) S.size = B at *
  have hkb : min (k + 1) S.size ≤ 1001 := by omega
  generalize min (k + 1) S.size = j at *
  have zAC : (A ++ C).size ≤ 1001 := by rw [ByteArray.size_append]; omega
  have zACB : ((A ++ C) ++ B).size ≤ 2001 := by rw [ByteArray.size_append]; omega
  have zSC : (S ++ C).size ≤ 1001 := by rw [ByteArray.size_append]; omega
  clear hC Hmd
  have hfa := (Frm.refl (fun _ => False) w4).alloc (.cells #[.int .u8 c.toNat] 5)
  go_upto_region 7 with fail
  obtain ⟨V, hV⟩ : ∃ V, V = w4.alloc (.cells #[.int .u8 c.toNat] 5) := ⟨_, rfl⟩
  rw [← hV] at hfa
  rw [← hV]
  have y2 := hfa.cell y2 (fun h => h)
  have Hf := Lib.hid (Hf.out.trans hfa)
  clear hV hcv hfa y0 y1
  have hrow5 := True.intro
  go_cut [13] from 35 to 87 (fun sx wx => ∃ m D, sx = .pointer (some ⟨m, 0, none⟩) ∧ D.size ≤ 1000 ∧ wx.heap[m]? = some (.cells #[.string S, .string ((A ++ C) ++ B), .string (S ++ C), .string D, .string E] 64 (0, 0)) ∧ Frm (fun _ => False) w3 wx)
  case first =>
    have HX := Lib.hid Hf.out.drew
    refine wp_region_held_drew (S := fun w' => w'.cell? ⟨yb, 2, none⟩ = some (.string (q))) (by kernel_rfl) y2 (fun hHeld => ?_)
    generalize V.drew = Y at *
    refine wpAnyH_take (i := 0) (oi := ⟨some 35, _, _, _, _, _⟩) (v := (.string (S))) rfl (by kernel_rfl) (by kernel_rfl) (by kernel_rfl) (fun _ _ _ h => h) (.inl ⟨by rfl, fun w hw => by dsimp only at hw; go_simp⟩) hHeld ?_
    simp only [Act.put, List.setIfInBounds_toArray, List.set_cons_zero, List.set_cons_succ]
    refine wpAnyH_take (i := 1) (oi := ⟨some 36, _, _, _, _, _⟩) (v := (.string (S))) rfl (by kernel_rfl) (by kernel_rfl) (by kernel_rfl) (fun _ _ _ h => h) (.inl ⟨by rfl, fun w hw => by dsimp only at hw; go_simp⟩) hHeld ?_
    simp only [Act.put, List.setIfInBounds_toArray, List.set_cons_zero, List.set_cons_succ]
    refine wpAnyH_take (i := 2) (oi := ⟨some 37, _, _, _, _, _⟩) (v := (.int .i64 (k))) rfl (by kernel_rfl) (by kernel_rfl) (by kernel_rfl) (fun _ _ _ h => h) (.inl ⟨by rfl, fun w hw => by dsimp only at hw; go_simp⟩) hHeld ?_
    simp only [Act.put, List.setIfInBounds_toArray, List.set_cons_zero, List.set_cons_succ]
    refine wpAnyH_take (i := 3) (oi := ⟨some 38, _, _, _, _, _⟩) (v := (.string (A))) rfl (by kernel_rfl) (by kernel_rfl) (by kernel_rfl) (fun _ _ _ h => h) (.inl ⟨by rfl, fun w hw => by dsimp only at hw; go_simp⟩) hHeld ?_
    simp only [Act.put, List.setIfInBounds_toArray, List.set_cons_zero, List.set_cons_succ]
    refine wpAnyH_take (i := 4) (oi := ⟨some 39, _, _, _, _, _⟩) (v := (.string (C))) rfl (by kernel_rfl) (by kernel_rfl) (by kernel_rfl) (fun _ _ _ h => h) (.inl ⟨by rfl, fun w hw => by dsimp only at hw; go_simp⟩) hHeld ?_
    simp only [Act.put, List.setIfInBounds_toArray, List.set_cons_zero, List.set_cons_succ]
    refine wpAnyH_take (i := 5) (oi := ⟨some 40, _, _, _, _, _⟩) (v := (.string ((A) ++ (C)))) rfl (by kernel_rfl) (by kernel_rfl) (by kernel_rfl) (fun _ _ _ h => h) (.inl ⟨by rfl, fun w hw => by dsimp only at hw; go_simp; all_goals omega⟩) hHeld ?_
    simp only [Act.put, List.setIfInBounds_toArray, List.set_cons_zero, List.set_cons_succ]
    refine wpAnyH_take (i := 6) (oi := ⟨some 41, _, _, _, _, _⟩) (v := (.string (S))) rfl (by kernel_rfl) (by kernel_rfl) (by kernel_rfl) (fun _ _ _ h => h) (.inl ⟨by rfl, fun w hw => by dsimp only at hw; go_simp⟩) hHeld ?_
    simp only [Act.put, List.setIfInBounds_toArray, List.set_cons_zero, List.set_cons_succ]
    refine wpAnyH_take (i := 7) (oi := ⟨some 42, _, _, _, _, _⟩) (v := (.int .i64 (k))) rfl (by kernel_rfl) (by kernel_rfl) (by kernel_rfl) (fun _ _ _ h => h) (.inl ⟨by rfl, fun w hw => by dsimp only at hw; go_simp⟩) hHeld ?_
    simp only [Act.put, List.setIfInBounds_toArray, List.set_cons_zero, List.set_cons_succ]
    refine wpAnyH_take (i := 8) (oi := ⟨some 43, _, _, _, _, _⟩) (v := (.int .i64 ((k : Int) + (1 : Int)))) rfl (by kernel_rfl) (by kernel_rfl) (by kernel_rfl) (fun _ _ _ h => h) (.inl ⟨by rfl, fun w hw => by dsimp only at hw; go_simp; all_goals (exact IntWalk.i64_in _ (by omega))⟩) hHeld ?_
    simp only [Act.put, List.setIfInBounds_toArray, List.set_cons_zero, List.set_cons_succ]
    refine wpAnyH_take (i := 9) (oi := ⟨some 44, _, _, _, _, _⟩) (v := (.string (S))) rfl (by kernel_rfl) (by kernel_rfl) (by kernel_rfl) (fun _ _ _ h => h) (.inl ⟨by rfl, fun w hw => by dsimp only at hw; go_simp⟩) hHeld ?_
    simp only [Act.put, List.setIfInBounds_toArray, List.set_cons_zero, List.set_cons_succ]
    refine wpAnyH_take (i := 10) (oi := ⟨some 45, _, _, _, _, _⟩) (v := (.int .i64 (((S).size : Int)))) rfl (by kernel_rfl) (by kernel_rfl) (by kernel_rfl) (fun _ _ _ h => h) (.inl ⟨by rfl, fun w hw => by dsimp only at hw; go_simp⟩) hHeld ?_
    simp only [Act.put, List.setIfInBounds_toArray, List.set_cons_zero, List.set_cons_succ]
    refine wpAnyH_take (i := 11) (oi := ⟨some 46, _, _, _, _, _⟩) (v := (.int .i64 (j))) rfl (by kernel_rfl) (by kernel_rfl) (by kernel_rfl) (fun _ _ _ h => h) (.inl ⟨by rfl, fun w hw => by dsimp only at hw; go_simp⟩) hHeld ?_
    simp only [Act.put, List.setIfInBounds_toArray, List.set_cons_zero, List.set_cons_succ]
    refine wpAnyH_take (i := 12) (oi := ⟨some 47, _, _, _, _, _⟩) (v := (.string (B))) rfl (by kernel_rfl) (by kernel_rfl) (by kernel_rfl) (fun _ _ _ h => h) (.inl ⟨by rfl, fun w hw => by dsimp only at hw; go_simp⟩) hHeld ?_
    simp only [Act.put, List.setIfInBounds_toArray, List.set_cons_zero, List.set_cons_succ]
    refine wpAnyH_take (i := 13) (oi := ⟨some 48, _, _, _, _, _⟩) (v := (.string (((A) ++ (C)) ++ (B)))) rfl (by kernel_rfl) (by kernel_rfl) (by kernel_rfl) (fun _ _ _ h => h) (.inl ⟨by rfl, fun w hw => by dsimp only at hw; go_simp; all_goals omega⟩) hHeld ?_
    simp only [Act.put, List.setIfInBounds_toArray, List.set_cons_zero, List.set_cons_succ]
    refine wpAnyH_take (i := 14) (oi := ⟨some 49, _, _, _, _, _⟩) (v := (.string (S))) rfl (by kernel_rfl) (by kernel_rfl) (by kernel_rfl) (fun _ _ _ h => h) (.inl ⟨by rfl, fun w hw => by dsimp only at hw; go_simp⟩) hHeld ?_
    simp only [Act.put, List.setIfInBounds_toArray, List.set_cons_zero, List.set_cons_succ]
    refine wpAnyH_take (i := 15) (oi := ⟨some 50, _, _, _, _, _⟩) (v := (.string (C))) rfl (by kernel_rfl) (by kernel_rfl) (by kernel_rfl) (fun _ _ _ h => h) (.inl ⟨by rfl, fun w hw => by dsimp only at hw; go_simp⟩) hHeld ?_
    simp only [Act.put, List.setIfInBounds_toArray, List.set_cons_zero, List.set_cons_succ]
    refine wpAnyH_take (i := 16) (oi := ⟨some 51, _, _, _, _, _⟩) (v := (.string ((S) ++ (C)))) rfl (by kernel_rfl) (by kernel_rfl) (by kernel_rfl) (fun _ _ _ h => h) (.inl ⟨by rfl, fun w hw => by dsimp only at hw; go_simp; all_goals omega⟩) hHeld ?_
    simp only [Act.put, List.setIfInBounds_toArray, List.set_cons_zero, List.set_cons_succ]
    refine wpAnyH_take (i := 17) (oi := ⟨some 52, _, _, _, _, _⟩) (v := (v9)) rfl (by kernel_rfl) (by kernel_rfl) (by kernel_rfl) (fun _ _ _ h => h) (.inl ⟨by rfl, fun w hw => by dsimp only at hw; go_simp⟩) hHeld ?_
    simp only [Act.put, List.setIfInBounds_toArray, List.set_cons_zero, List.set_cons_succ]
    refine wpAnyH_take (i := 18) (oi := ⟨some 53, _, _, _, _, _⟩) (v := (.slice ao2 n2 cap2)) rfl (by kernel_rfl) (by kernel_rfl) (by kernel_rfl) (fun _ _ _ h => h) (.inl ⟨by rfl, fun w hw => by dsimp only at hw; go_simp⟩) hHeld ?_
    simp only [Act.put, List.setIfInBounds_toArray, List.set_cons_zero, List.set_cons_succ]
    refine wpAnyH_take (i := 20) (oi := ⟨some 55, _, _, _, _, _⟩) (v := (.pointer (some ⟨yb, 2, none⟩))) rfl (by kernel_rfl) (by kernel_rfl) (by kernel_rfl) (fun _ _ _ h => h) (.inl ⟨by rfl, fun w hw => by dsimp only at hw; go_simp⟩) hHeld ?_
    simp only [Act.put, List.setIfInBounds_toArray, List.set_cons_zero, List.set_cons_succ]
    refine wpAnyH_take (i := 21) (oi := ⟨some 56, _, _, _, _, _⟩) (v := (.string (q))) rfl (by kernel_rfl) (by kernel_rfl) (by kernel_rfl) (fun _ _ _ h => h) (.inl ⟨by rfl, fun w hw => by dsimp only at hw; go_simp⟩) hHeld ?_
    simp only [Act.put, List.setIfInBounds_toArray, List.set_cons_zero, List.set_cons_succ]
    refine wpAnyH_ready (rs := [19, 24]) (by kernel_rfl) (by simp) ?_
    refine AllReadyH.cons (o := ⟨some 54, _, _, _, _, _⟩) rfl (fun K hK => ?_) (AllReadyH.cons (o := ⟨some 13, _, _, _, _, _⟩) rfl (fun K hK => ?_) AllReadyH.nil)
    · skip
      go_simp
      refine (Hsm9.out _ HX.out).mono ?_
      rintro e Vc1 ⟨D, rfl, hDz, fc1⟩
      have HFc1 := Lib.hid (HX.out.trans fc1)
      refine hK.out _ _ (fc1.cell hHeld (fun h => h)) (fun hHeld => ?_)
      clear hK K fc1 HX
      refine wpAnyH_ready (rs := [22, 24]) (by kernel_rfl) (by simp) ?_
      refine AllReadyH.cons (o := ⟨some 57, _, _, _, _, _⟩) rfl (fun K hK => ?_) (AllReadyH.cons (o := ⟨some 13, _, _, _, _, _⟩) rfl (fun K hK => ?_) AllReadyH.nil)
      · skip
        go_simp
        refine (Hct.out _).mono ?_
        rintro e Vc2 ⟨rfl, rfl⟩
        refine hK.out _ _ hHeld (fun hHeld => ?_)
        clear hK K
        refine wpAnyH_take (i := 23) (oi := ⟨some 58, _, _, _, _, _⟩) (v := (.agg #[.string (S), .string (((A) ++ (C)) ++ (B)), .string ((S) ++ (C)), .string (D), .string (E)])) rfl (by kernel_rfl) (by kernel_rfl) (by kernel_rfl) (fun _ _ _ h => h) (.inl ⟨by rfl, fun w hw => by dsimp only at hw; go_simp⟩) hHeld ?_
        simp only [Act.put, List.setIfInBounds_toArray, List.set_cons_zero, List.set_cons_succ]
        refine wpAnyH_ready (rs := [24]) (by kernel_rfl) (by simp) ?_
        refine AllReadyH.cons (o := ⟨some 13, _, _, _, _, _⟩) rfl (fun K hK => ?_) AllReadyH.nil
        go_simp
        have hrm := Bx.start w3 _ HFc1.out
        have fc3 := (Frm.refl (fun _ => False) Vc1).alloc (.cells #[.string ⟨#[]⟩, .string ⟨#[]⟩, .string ⟨#[]⟩, .string ⟨#[]⟩, .string ⟨#[]⟩] 64)
        have hnybm : yb ≠ Vc1.heap.size := fun e => by have := World.block_lt_of_cell? _ _ hHeld; simp only at this; omega
        obtain ⟨Vc3, hVc3⟩ : ∃ V, V = Vc1.alloc (.cells #[.string ⟨#[]⟩, .string ⟨#[]⟩, .string ⟨#[]⟩, .string ⟨#[]⟩, .string ⟨#[]⟩] 64) := ⟨_, rfl⟩
        obtain ⟨m, hmc3⟩ : ∃ m, m = Vc1.heap.size := ⟨_, rfl⟩
        rw [← hVc3, ← hmc3] at hrm
        rw [← hVc3] at fc3
        rw [← hmc3] at hnybm
        rw [← hVc3, ← hmc3]
        clear hVc3 hmc3
        have HFc3 := Lib.hid (HFc1.out.trans fc3)
        refine hK.out _ _ (fc3.cell hHeld (fun h => h)) (fun hHeld => ?_)
        clear hK K fc3 HFc1
        refine wpAnyH_ready (rs := [25]) (by kernel_rfl) (by simp) ?_
        refine AllReadyH.cons (o := ⟨none, _, _, _, _, _⟩) rfl (fun K hK => ?_) AllReadyH.nil
        have hrc4 := hrm
        obtain ⟨u0, u1, u2, u3, u4, ⟨c0, c1, c2, c3, c4⟩, z0, z1, z2, z3, z4⟩ := hrc4.facts
        go_simp
        clear c0 c1 c2 c3 c4 z0 z1 z2 z3 z4
        obtain ⟨Vc4, hVc4, hrowc4, hresc4, hcellc4⟩ := hrc4.put (.string (S)) (.string (((A) ++ (C)) ++ (B))) (.string ((S) ++ (C))) (.string (D)) (.string (E))
        rw [hVc4]
        clear hVc4 hrc4
        refine hK.out _ _ (hcellc4 _ _ _ hnybm hHeld) (fun hHeld => ?_)
        clear hK K hcellc4
        refine wpAnyH_done (by kernel_rfl) ?_ _
        go_wp2_with fail
        go_meet
        case rel => exact ⟨m, D, rfl, hDz, hrowc4, hresc4.frm⟩
      · skip
        go_simp
        have hrm := Bx.start w3 _ HFc1.out
        have fc2 := (Frm.refl (fun _ => False) Vc1).alloc (.cells #[.string ⟨#[]⟩, .string ⟨#[]⟩, .string ⟨#[]⟩, .string ⟨#[]⟩, .string ⟨#[]⟩] 64)
        have hnybm : yb ≠ Vc1.heap.size := fun e => by have := World.block_lt_of_cell? _ _ hHeld; simp only at this; omega
        obtain ⟨Vc2, hVc2⟩ : ∃ V, V = Vc1.alloc (.cells #[.string ⟨#[]⟩, .string ⟨#[]⟩, .string ⟨#[]⟩, .string ⟨#[]⟩, .string ⟨#[]⟩] 64) := ⟨_, rfl⟩
        obtain ⟨m, hmc2⟩ : ∃ m, m = Vc1.heap.size := ⟨_, rfl⟩
        rw [← hVc2, ← hmc2] at hrm
        rw [← hVc2] at fc2
        rw [← hmc2] at hnybm
        rw [← hVc2, ← hmc2]
        clear hVc2 hmc2
        have HFc2 := Lib.hid (HFc1.out.trans fc2)
        refine hK.out _ _ (fc2.cell hHeld (fun h => h)) (fun hHeld => ?_)
        clear hK K fc2 HFc1
        refine wpAnyH_ready (rs := [22]) (by kernel_rfl) (by simp) ?_
        refine AllReadyH.cons (o := ⟨some 57, _, _, _, _, _⟩) rfl (fun K hK => ?_) AllReadyH.nil
        go_simp
        refine (Hct.out _).mono ?_
        rintro e Vc3 ⟨rfl, rfl⟩
        refine hK.out _ _ hHeld (fun hHeld => ?_)
        clear hK K
        refine wpAnyH_take (i := 23) (oi := ⟨some 58, _, _, _, _, _⟩) (v := (.agg #[.string (S), .string (((A) ++ (C)) ++ (B)), .string ((S) ++ (C)), .string (D), .string (E)])) rfl (by kernel_rfl) (by kernel_rfl) (by kernel_rfl) (fun _ _ _ h => h) (.inl ⟨by rfl, fun w hw => by dsimp only at hw; go_simp⟩) hHeld ?_
        simp only [Act.put, List.setIfInBounds_toArray, List.set_cons_zero, List.set_cons_succ]
        refine wpAnyH_ready (rs := [25]) (by kernel_rfl) (by simp) ?_
        refine AllReadyH.cons (o := ⟨none, _, _, _, _, _⟩) rfl (fun K hK => ?_) AllReadyH.nil
        have hrc4 := hrm
        obtain ⟨u0, u1, u2, u3, u4, ⟨c0, c1, c2, c3, c4⟩, z0, z1, z2, z3, z4⟩ := hrc4.facts
        go_simp
        clear c0 c1 c2 c3 c4 z0 z1 z2 z3 z4
        obtain ⟨Vc4, hVc4, hrowc4, hresc4, hcellc4⟩ := hrc4.put (.string (S)) (.string (((A) ++ (C)) ++ (B))) (.string ((S) ++ (C))) (.string (D)) (.string (E))
        rw [hVc4]
        clear hVc4 hrc4
        refine hK.out _ _ (hcellc4 _ _ _ hnybm hHeld) (fun hHeld => ?_)
        clear hK K hcellc4
        refine wpAnyH_done (by kernel_rfl) ?_ _
        go_wp2_with fail
        go_meet
        case rel => exact ⟨m, D, rfl, hDz, hrowc4, hresc4.frm⟩
    · skip
      go_simp
      have hrm := Bx.start w3 _ HX.out
      have fc1 := (Frm.refl (fun _ => False) Y).alloc (.cells #[.string ⟨#[]⟩, .string ⟨#[]⟩, .string ⟨#[]⟩, .string ⟨#[]⟩, .string ⟨#[]⟩] 64)
      have hnybm : yb ≠ Y.heap.size := fun e => by have := World.block_lt_of_cell? _ _ hHeld; simp only at this; omega
      obtain ⟨Vc1, hVc1⟩ : ∃ V, V = Y.alloc (.cells #[.string ⟨#[]⟩, .string ⟨#[]⟩, .string ⟨#[]⟩, .string ⟨#[]⟩, .string ⟨#[]⟩] 64) := ⟨_, rfl⟩
      obtain ⟨m, hmc1⟩ : ∃ m, m = Y.heap.size := ⟨_, rfl⟩
      rw [← hVc1, ← hmc1] at hrm
      rw [← hVc1] at fc1
      rw [← hmc1] at hnybm
      rw [← hVc1, ← hmc1]
      clear hVc1 hmc1
      have HFc1 := Lib.hid (HX.out.trans fc1)
      refine hK.out _ _ (fc1.cell hHeld (fun h => h)) (fun hHeld => ?_)
      clear hK K fc1 HX
      refine wpAnyH_ready (rs := [19]) (by kernel_rfl) (by simp) ?_
      refine AllReadyH.cons (o := ⟨some 54, _, _, _, _, _⟩) rfl (fun K hK => ?_) AllReadyH.nil
      go_simp
      refine (Hsm9.out _ HFc1.out).mono ?_
      rintro e Vc2 ⟨D, rfl, hDz, fc2⟩
      have HFc2 := Lib.hid (HFc1.out.trans fc2)
      have hrm := hrm.still fc2
      refine hK.out _ _ (fc2.cell hHeld (fun h => h)) (fun hHeld => ?_)
      clear hK K fc2 HFc1
      refine wpAnyH_ready (rs := [22]) (by kernel_rfl) (by simp) ?_
      refine AllReadyH.cons (o := ⟨some 57, _, _, _, _, _⟩) rfl (fun K hK => ?_) AllReadyH.nil
      go_simp
      refine (Hct.out _).mono ?_
      rintro e Vc3 ⟨rfl, rfl⟩
      refine hK.out _ _ hHeld (fun hHeld => ?_)
      clear hK K
      refine wpAnyH_take (i := 23) (oi := ⟨some 58, _, _, _, _, _⟩) (v := (.agg #[.string (S), .string (((A) ++ (C)) ++ (B)), .string ((S) ++ (C)), .string (D), .string (E)])) rfl (by kernel_rfl) (by kernel_rfl) (by kernel_rfl) (fun _ _ _ h => h) (.inl ⟨by rfl, fun w hw => by dsimp only at hw; go_simp⟩) hHeld ?_
      simp only [Act.put, List.setIfInBounds_toArray, List.set_cons_zero, List.set_cons_succ]
      refine wpAnyH_ready (rs := [25]) (by kernel_rfl) (by simp) ?_
      refine AllReadyH.cons (o := ⟨none, _, _, _, _, _⟩) rfl (fun K hK => ?_) AllReadyH.nil
      have hrc4 := hrm
      obtain ⟨u0, u1, u2, u3, u4, ⟨c0, c1, c2, c3, c4⟩, z0, z1, z2, z3, z4⟩ := hrc4.facts
      go_simp
      clear c0 c1 c2 c3 c4 z0 z1 z2 z3 z4
      obtain ⟨Vc4, hVc4, hrowc4, hresc4, hcellc4⟩ := hrc4.put (.string (S)) (.string (((A) ++ (C)) ++ (B))) (.string ((S) ++ (C))) (.string (D)) (.string (E))
      rw [hVc4]
      clear hVc4 hrc4
      refine hK.out _ _ (hcellc4 _ _ _ hnybm hHeld) (fun hHeld => ?_)
      clear hK K hcellc4
      refine wpAnyH_done (by kernel_rfl) ?_ _
      go_wp2_with fail
      go_meet
      case rel => exact ⟨m, D, rfl, hDz, hrowc4, hresc4.frm⟩
  case rest =>
    clear Hf y2
    obtain ⟨mb, D, rfl, hDz, hrow, hf⟩ := hcut
    have h5 := five_at hrow (by omega) (by omega) (by omega) (by omega) (by omega)
    have H5 := Lib.hid h5
    have HP8 := Lib.hid (HP8.out.still hf)
    have HP9 := Lib.hid (HP9.out.still hf)
    have HF := Lib.hid (HF.out.trans hf)
    clear hrow h5 hf Hsm9 Hct e1 hs1 hs2
    go_wp2_with fail
    go_loopw [14] (fun s wr => ∃ i : Nat, s = .int .i64 i ∧ i ≤ 5 ∧ Frm (fun _ => False) wc wr) (fun s _ => 5 - (intOf s).toNat)
    case atStart => exact ⟨0, rfl, Nat.zero_le _, Frm.refl _ _⟩
    case round =>
      obtain ⟨i, rfl, hi, hf⟩ := hrel
      by_cases hi5 : i < 5
      · have hi5I : (i : Int) < 5 := by omega
        obtain ⟨T, hTz, t0⟩ := H5.out i hi5
        have t0 := hf.cell t0 (fun h => h)
        have hm1 := fun (W : World) (f : Frm (fun _ => False) wc W) => matches_any W T (by omega) (HP8.out.still f) hs8 hl8 (HT.out.frm (HF.out.trans f))
        have hm2 := fun (W : World) (f : Frm (fun _ => False) wc W) => rmatches_any W T (by omega) (HP8.out.still f) hs8 hl8
        have hm3 := fun (W : World) (f : Frm (fun _ => False) wc W) => matches_any W T (by omega) (HP9.out.still f) hs9 hl9 (HT.out.frm (HF.out.trans f))
        have hm4 := fun (W : World) (f : Frm (fun _ => False) wc W) => rmatches_any W T (by omega) (HP9.out.still f) hs9 hl9
        generalize matchB ps T.data.toList = b1 at *
        generalize matchB qs T.data.toList = b2 at *
        have Hm1 := Lib.hid hm1
        have Hm2 := Lib.hid hm2
        have Hm3 := Lib.hid hm3
        have Hm4 := Lib.hid hm4
        clear hm1 hm2 hm3 hm4
        go_upto_region 11 with fail
        have HX := Lib.hid hf.drew
        clear hf
        refine wp_region_held_drew (S := fun w' => w'.cell? ⟨mb, i, none⟩ = some (.string (T))) (by kernel_rfl) t0 (fun hHeld => ?_)
        refine wpAnyH_take (i := 0) (oi := ⟨some 63, _, _, _, _, _⟩) (v := (v8)) rfl (by kernel_rfl) (by kernel_rfl) (by kernel_rfl) (fun _ _ _ h => h) (.inl ⟨by rfl, fun w hw => by dsimp only at hw; go_simp⟩) hHeld ?_
        simp only [Act.put, List.setIfInBounds_toArray, List.set_cons_zero, List.set_cons_succ]
        refine wpAnyH_take (i := 1) (oi := ⟨some 64, _, _, _, _, _⟩) (v := (.int .i64 (i))) rfl (by kernel_rfl) (by kernel_rfl) (by kernel_rfl) (fun _ _ _ h => h) (.inl ⟨by rfl, fun w hw => by dsimp only at hw; go_simp⟩) hHeld ?_
        simp only [Act.put, List.setIfInBounds_toArray, List.set_cons_zero, List.set_cons_succ]
        refine wpAnyH_take (i := 2) (oi := ⟨some 65, _, _, _, _, _⟩) (v := (.pointer (some ⟨mb, i, none⟩))) rfl (by kernel_rfl) (by kernel_rfl) (by kernel_rfl) (fun _ _ _ h => h) (.inl ⟨by rfl, fun w hw => by dsimp only at hw; go_simp⟩) hHeld ?_
        simp only [Act.put, List.setIfInBounds_toArray, List.set_cons_zero, List.set_cons_succ]
        refine wpAnyH_take (i := 3) (oi := ⟨some 66, _, _, _, _, _⟩) (v := (.string (T))) rfl (by kernel_rfl) (by kernel_rfl) (by kernel_rfl) (fun _ _ _ h => h) (.inl ⟨by rfl, fun w hw => by dsimp only at hw; go_simp⟩) hHeld ?_
        simp only [Act.put, List.setIfInBounds_toArray, List.set_cons_zero, List.set_cons_succ]
        refine wpAnyH_take (i := 5) (oi := ⟨some 68, _, _, _, _, _⟩) (v := (v8)) rfl (by kernel_rfl) (by kernel_rfl) (by kernel_rfl) (fun _ _ _ h => h) (.inl ⟨by rfl, fun w hw => by dsimp only at hw; go_simp⟩) hHeld ?_
        simp only [Act.put, List.setIfInBounds_toArray, List.set_cons_zero, List.set_cons_succ]
        refine wpAnyH_take (i := 6) (oi := ⟨some 69, _, _, _, _, _⟩) (v := (.int .i64 (i))) rfl (by kernel_rfl) (by kernel_rfl) (by kernel_rfl) (fun _ _ _ h => h) (.inl ⟨by rfl, fun w hw => by dsimp only at hw; go_simp⟩) hHeld ?_
        simp only [Act.put, List.setIfInBounds_toArray, List.set_cons_zero, List.set_cons_succ]
        refine wpAnyH_take (i := 7) (oi := ⟨some 70, _, _, _, _, _⟩) (v := (.pointer (some ⟨mb, i, none⟩))) rfl (by kernel_rfl) (by kernel_rfl) (by kernel_rfl) (fun _ _ _ h => h) (.inl ⟨by rfl, fun w hw => by dsimp only at hw; go_simp⟩) hHeld ?_
        simp only [Act.put, List.setIfInBounds_toArray, List.set_cons_zero, List.set_cons_succ]
        refine wpAnyH_take (i := 8) (oi := ⟨some 71, _, _, _, _, _⟩) (v := (.string (T))) rfl (by kernel_rfl) (by kernel_rfl) (by kernel_rfl) (fun _ _ _ h => h) (.inl ⟨by rfl, fun w hw => by dsimp only at hw; go_simp⟩) hHeld ?_
        simp only [Act.put, List.setIfInBounds_toArray, List.set_cons_zero, List.set_cons_succ]
        refine wpAnyH_ready (rs := [4]) (by kernel_rfl) (by simp) ?_
        refine AllReadyH.cons (o := ⟨some 67, _, _, _, _, _⟩) rfl (fun K hK => ?_) AllReadyH.nil
        go_simp
        refine (Hm1.out _ HX.out).mono ?_
        rintro e Vz1 ⟨rfl, fz1⟩
        have HFz1 := Lib.hid (HX.out.trans fz1)
        refine hK.out _ _ (fz1.cell hHeld (fun h => h)) (fun hHeld => ?_)
        clear hK K fz1 HX
        refine wpAnyH_ready (rs := [9]) (by kernel_rfl) (by simp) ?_
        refine AllReadyH.cons (o := ⟨some 72, _, _, _, _, _⟩) rfl (fun K hK => ?_) AllReadyH.nil
        go_simp
        refine (Hm2.out _ HFz1.out).mono ?_
        rintro e Vz2 ⟨rfl, fz2⟩
        have HFz2 := Lib.hid (HFz1.out.trans fz2)
        refine hK.out _ _ (fz2.cell hHeld (fun h => h)) (fun hHeld => ?_)
        clear hK K fz2 HFz1
        refine wpAnyH_take (i := 10) (oi := ⟨some 73, _, _, _, _, _⟩) (v := (.bool (false))) rfl (by kernel_rfl) (by kernel_rfl) (by kernel_rfl) (fun _ _ _ h => h) (.inl ⟨by rfl, fun w hw => by dsimp only at hw; go_simp⟩) hHeld ?_
        simp only [Act.put, List.setIfInBounds_toArray, List.set_cons_zero, List.set_cons_succ]
        refine wpAnyH_take (i := 11) (oi := ⟨some 74, _, _, _, _, _⟩) (v := (.bool (false))) rfl (by kernel_rfl) (by kernel_rfl) (by kernel_rfl) (fun _ _ _ h => h) (.inl ⟨by rfl, fun w hw => by dsimp only at hw; go_simp⟩) hHeld ?_
        simp only [Act.put, List.setIfInBounds_toArray, List.set_cons_zero, List.set_cons_succ]
        refine wpAnyH_take (i := 12) (oi := ⟨some 75, _, _, _, _, _⟩) (v := (v9)) rfl (by kernel_rfl) (by kernel_rfl) (by kernel_rfl) (fun _ _ _ h => h) (.inl ⟨by rfl, fun w hw => by dsimp only at hw; go_simp⟩) hHeld ?_
        simp only [Act.put, List.setIfInBounds_toArray, List.set_cons_zero, List.set_cons_succ]
        refine wpAnyH_take (i := 13) (oi := ⟨some 76, _, _, _, _, _⟩) (v := (.int .i64 (i))) rfl (by kernel_rfl) (by kernel_rfl) (by kernel_rfl) (fun _ _ _ h => h) (.inl ⟨by rfl, fun w hw => by dsimp only at hw; go_simp⟩) hHeld ?_
        simp only [Act.put, List.setIfInBounds_toArray, List.set_cons_zero, List.set_cons_succ]
        refine wpAnyH_take (i := 14) (oi := ⟨some 77, _, _, _, _, _⟩) (v := (.pointer (some ⟨mb, i, none⟩))) rfl (by kernel_rfl) (by kernel_rfl) (by kernel_rfl) (fun _ _ _ h => h) (.inl ⟨by rfl, fun w hw => by dsimp only at hw; go_simp⟩) hHeld ?_
        simp only [Act.put, List.setIfInBounds_toArray, List.set_cons_zero, List.set_cons_succ]
        refine wpAnyH_take (i := 15) (oi := ⟨some 78, _, _, _, _, _⟩) (v := (.string (T))) rfl (by kernel_rfl) (by kernel_rfl) (by kernel_rfl) (fun _ _ _ h => h) (.inl ⟨by rfl, fun w hw => by dsimp only at hw; go_simp⟩) hHeld ?_
        simp only [Act.put, List.setIfInBounds_toArray, List.set_cons_zero, List.set_cons_succ]
        refine wpAnyH_take (i := 17) (oi := ⟨some 80, _, _, _, _, _⟩) (v := (v9)) rfl (by kernel_rfl) (by kernel_rfl) (by kernel_rfl) (fun _ _ _ h => h) (.inl ⟨by rfl, fun w hw => by dsimp only at hw; go_simp⟩) hHeld ?_
        simp only [Act.put, List.setIfInBounds_toArray, List.set_cons_zero, List.set_cons_succ]
        refine wpAnyH_take (i := 18) (oi := ⟨some 81, _, _, _, _, _⟩) (v := (.int .i64 (i))) rfl (by kernel_rfl) (by kernel_rfl) (by kernel_rfl) (fun _ _ _ h => h) (.inl ⟨by rfl, fun w hw => by dsimp only at hw; go_simp⟩) hHeld ?_
        simp only [Act.put, List.setIfInBounds_toArray, List.set_cons_zero, List.set_cons_succ]
        refine wpAnyH_take (i := 19) (oi := ⟨some 82, _, _, _, _, _⟩) (v := (.pointer (some ⟨mb, i, none⟩))) rfl (by kernel_rfl) (by kernel_rfl) (by kernel_rfl) (fun _ _ _ h => h) (.inl ⟨by rfl, fun w hw => by dsimp only at hw; go_simp⟩) hHeld ?_
        simp only [Act.put, List.setIfInBounds_toArray, List.set_cons_zero, List.set_cons_succ]
        refine wpAnyH_take (i := 20) (oi := ⟨some 83, _, _, _, _, _⟩) (v := (.string (T))) rfl (by kernel_rfl) (by kernel_rfl) (by kernel_rfl) (fun _ _ _ h => h) (.inl ⟨by rfl, fun w hw => by dsimp only at hw; go_simp⟩) hHeld ?_
        simp only [Act.put, List.setIfInBounds_toArray, List.set_cons_zero, List.set_cons_succ]
        refine wpAnyH_ready (rs := [16]) (by kernel_rfl) (by simp) ?_
        refine AllReadyH.cons (o := ⟨some 79, _, _, _, _, _⟩) rfl (fun K hK => ?_) AllReadyH.nil
        go_simp
        refine (Hm3.out _ HFz2.out).mono ?_
        rintro e Vz3 ⟨rfl, fz3⟩
        have HFz3 := Lib.hid (HFz2.out.trans fz3)
        refine hK.out _ _ (fz3.cell hHeld (fun h => h)) (fun hHeld => ?_)
        clear hK K fz3 HFz2
        refine wpAnyH_ready (rs := [21]) (by kernel_rfl) (by simp) ?_
        refine AllReadyH.cons (o := ⟨some 84, _, _, _, _, _⟩) rfl (fun K hK => ?_) AllReadyH.nil
        go_simp
        refine (Hm4.out _ HFz3.out).mono ?_
        rintro e Vz4 ⟨rfl, fz4⟩
        have HFz4 := Lib.hid (HFz3.out.trans fz4)
        refine hK.out _ _ (fz4.cell hHeld (fun h => h)) (fun hHeld => ?_)
        clear hK K fz4 HFz3
        refine wpAnyH_take (i := 22) (oi := ⟨some 85, _, _, _, _, _⟩) (v := (.bool (false))) rfl (by kernel_rfl) (by kernel_rfl) (by kernel_rfl) (fun _ _ _ h => h) (.inl ⟨by rfl, fun w hw => by dsimp only at hw; go_simp⟩) hHeld ?_
        simp only [Act.put, List.setIfInBounds_toArray, List.set_cons_zero, List.set_cons_succ]
        refine wpAnyH_take (i := 23) (oi := ⟨some 86, _, _, _, _, _⟩) (v := (.bool (false))) rfl (by kernel_rfl) (by kernel_rfl) (by kernel_rfl) (fun _ _ _ h => h) (.inl ⟨by rfl, fun w hw => by dsimp only at hw; go_simp⟩) hHeld ?_
        simp only [Act.put, List.setIfInBounds_toArray, List.set_cons_zero, List.set_cons_succ]
        refine wpAnyH_done (by kernel_rfl) ?_ _
        have Hf := Lib.hid HFz4.out
        clear HFz4 hHeld t0 Hm1 Hm2 Hm3 Hm4
        go_wp2_with fail
        go_roundw
        case rel => exact ⟨i + 1, by go_num, hi5, Hf.out⟩
        case measure => simp [intOf]; omega
      · have hi5I : ¬ (i : Int) < 5 := by omega
        go_wp2_with fail
        go_ret
        exact ⟨rfl, HF.out.trans hf⟩
end Go.Proofs.YtgnjakaamgeibaaDoor
