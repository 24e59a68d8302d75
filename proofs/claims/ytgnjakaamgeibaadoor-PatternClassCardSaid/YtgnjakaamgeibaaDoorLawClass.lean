/-
  PatternClass: the law returns true. Conditions: the laid tables.
-/
import Derived.Test.YtgnjakaamgeibaaDoorSan5
namespace Go.Proofs.YtgnjakaamgeibaaDoor
open Go.RowKit Go.Shelf
attribute [local go_sem] Oper.semAt_some

theorem cls_chr (c : UInt8) : (clsB c ≠ 0) = (32 ≤ c.toNat ∧ c.toNat ≤ 126) := by
  unfold clsB
  refine propext ?_
  split
  · constructor
    · intro h; exact absurd rfl h
    · intro h; omega
  · constructor
    · intro h; omega
    · intro _
      repeat' split
      all_goals decide
theorem one_match (n : Int) (c : UInt8) (h1 : 1 ≤ n) (h7 : n ≤ 7) : matchB [⟨n, 1, 1, ⟨#[]⟩⟩] [c] = (clsB c != 0 && insB (clsB c) n) := by
  have hr : rightB [⟨n, 1, 1, ⟨#[]⟩⟩] = true := by
    have : n = 1 ∨ n = 2 ∨ n = 3 ∨ n = 4 ∨ n = 5 ∨ n = 6 ∨ n = 7 := by omega
    rcases this with rfl | rfl | rfl | rfl | rfl | rfl | rfl <;> rfl
  unfold matchB
  rw [hr, mt_one]
  unfold fits textB chrs consB
  rw [if_neg (show ¬ n = 0 by omega)]
  simp
theorem small_one (n : Int) : Small [⟨n, 1, 1, ⟨#[]⟩⟩] := by
  intro p hp
  rw [List.mem_singleton] at hp
  subst hp
  exact Nat.zero_le _
theorem new_pcs (w : World) (n : Int) : Pcs (w.alloc (.cells #[.int .i64 n, .int .i64 1, .int .i64 1, .string ⟨#[]⟩] 53)) (.slice (some ⟨w.heap.size, 0, none⟩) 1 1) [⟨n, 1, 1, ⟨#[]⟩⟩] := by
  refine ⟨by simp [pcC], .inr ⟨w.heap.size, 1, _, rfl, Nat.zero_le _, heap_alloc_new w _, by simp, by unfold maxLen; omega, by simp, by simp [pcC]⟩⟩

set_option maxRecDepth 100000 in
set_option maxHeartbeats 8000000 in
theorem law_class0 (c : UInt8) (hk : clsB c = 0) (w : World) (hT : Tabs w) : Calls Tryd.prog 12 #[.int .u8 c.toNat] w fun e w' => e = .returned (.bool true) ∧ Frm (fun _ => False) w w' := by
  have hcc := cls_chr c
  rw [hk] at hcc
  have HT := Lib.hid hT
  have hcl := class_any c
  rw [hk] at hcl
  have hrc := rclass_any c
  rw [hk] at hrc
  have Hcl : ∀ w : World, Calls Tryd.prog 46 #[.int .u8 c.toNat] w fun e w' => e = .returned (.int .i64 0) ∧ w = w' := hcl
  have Hrc : ∀ w : World, Calls Tryd.prog 47 #[.int .u8 c.toNat] w fun e w' => e = .returned (.int .i64 0) ∧ w = w' := hrc
  have hmt : ∀ (n : Int) (w1 : World) (v : Value), 1 ≤ n → n ≤ 7 → Pcs w1 v [⟨n, 1, 1, ⟨#[]⟩⟩] → Tabs w1 → Calls Tryd.prog 42 #[v, .string ⟨#[c]⟩] w1 fun e w' => e = .returned (.bool (decide (((0 : Nat)) ≠ 0) && insB 0 n)) ∧ Frm (fun _ => False) w1 w' :=
    fun n w1 v h1 h7 h h2 => by
      have := matches_any w1 ⟨#[c]⟩ (by show 1 ≤ _; omega) h (small_one n) (by show 1 ≤ 1000; omega) h2
      have e : matchB [⟨n, 1, 1, ⟨#[]⟩⟩] (⟨#[c]⟩ : ByteArray).data.toList = (decide (((0 : Nat)) ≠ 0) && insB 0 n) := by
        show matchB [⟨n, 1, 1, ⟨#[]⟩⟩] [c] = _
        rw [one_match n c h1 h7, hk]
        rfl
      rw [e] at this
      exact this
  have Hmt := Lib.hid hmt
  have Hcl' := Lib.hid Hcl
  have Hrc' := Lib.hid Hrc
  clear hT hmt hk hcl hrc Hcl Hrc
  have key : 126 < c.toNat ∨ c.toNat < 32 := by
    have : ¬ (32 ≤ c.toNat ∧ c.toNat ≤ 126) := by rw [← hcc]; exact fun h => h rfl
    omega
  clear hcc
  rcases key with ha | ha
  · have g2 : (32 : Int) ≤ (c.toNat : Int) := by omega
    have g3 : ¬ ((c.toNat : Int) ≤ 126) := by omega
    go_enter Tryd.func12, Tryd.ntmps12
    go_wp2_with fail
    refine (sanity5_any w HT.out).mono ?_
    rintro e w1 ⟨rfl, f1⟩
    have Hf1 := Lib.hid f1
    clear f1
    go_wp2_with fail
    refine (Hcl'.out _).mono ?_
    rintro e w2 ⟨rfl, rfl⟩
    go_wp2_with fail
    refine (Hrc'.out _).mono ?_
    rintro e w2 ⟨rfl, rfl⟩
    have hcv := conv_one c w1
    go_wp2_with fail
    go_loopw [6] (fun sk wr => ∃ n : Int, sk = .int .i64 n ∧ 1 ≤ n ∧ n ≤ 8 ∧ Frm (fun _ => False) w wr) (fun sk _ => 8 - (intOf sk).toNat)
    case atStart => exact ⟨1, rfl, by omega, by omega, Hf1.out.alloc _⟩
    case round =>
      clear hcv
      obtain ⟨n, rfl, hn1, hn8, hf⟩ := hrel
      have hn : n = 1 ∨ n = 2 ∨ n = 3 ∨ n = 4 ∨ n = 5 ∨ n = 6 ∨ n = 7 ∨ n = 8 := by omega
      clear hn1 hn8
      rcases hn with rfl | rfl | rfl | rfl | rfl | rfl | rfl | rfl
      · go_wp2_with fail
        refine (Hmt.out 1 _ _ (by decide) (by decide) (new_pcs wr 1) (HT.out.frm (hf.alloc _))).mono ?_
        rintro e w5 ⟨rfl, f5⟩
        rw [show (decide (((0 : Nat)) ≠ 0) && insB 0 1) = false from rfl]
        have Hf5 := Lib.hid ((hf.alloc _).trans f5)
        clear f5 hf
        go_wp2_with fail
        go_roundw
        case rel => exact ⟨2, rfl, by decide, by decide, Hf5.out⟩
        case measure => simp [intOf]
      · go_wp2_with fail
        refine (Hmt.out 2 _ _ (by decide) (by decide) (new_pcs wr 2) (HT.out.frm (hf.alloc _))).mono ?_
        rintro e w5 ⟨rfl, f5⟩
        rw [show (decide (((0 : Nat)) ≠ 0) && insB 0 2) = false from rfl]
        have Hf5 := Lib.hid ((hf.alloc _).trans f5)
        clear f5 hf
        go_wp2_with fail
        go_roundw
        case rel => exact ⟨3, rfl, by decide, by decide, Hf5.out⟩
        case measure => simp [intOf]
      · go_wp2_with fail
        refine (Hmt.out 3 _ _ (by decide) (by decide) (new_pcs wr 3) (HT.out.frm (hf.alloc _))).mono ?_
        rintro e w5 ⟨rfl, f5⟩
        rw [show (decide (((0 : Nat)) ≠ 0) && insB 0 3) = false from rfl]
        have Hf5 := Lib.hid ((hf.alloc _).trans f5)
        clear f5 hf
        go_wp2_with fail
        go_roundw
        case rel => exact ⟨4, rfl, by decide, by decide, Hf5.out⟩
        case measure => simp [intOf]
      · go_wp2_with fail
        refine (Hmt.out 4 _ _ (by decide) (by decide) (new_pcs wr 4) (HT.out.frm (hf.alloc _))).mono ?_
        rintro e w5 ⟨rfl, f5⟩
        rw [show (decide (((0 : Nat)) ≠ 0) && insB 0 4) = false from rfl]
        have Hf5 := Lib.hid ((hf.alloc _).trans f5)
        clear f5 hf
        go_wp2_with fail
        go_roundw
        case rel => exact ⟨5, rfl, by decide, by decide, Hf5.out⟩
        case measure => simp [intOf]
      · go_wp2_with fail
        refine (Hmt.out 5 _ _ (by decide) (by decide) (new_pcs wr 5) (HT.out.frm (hf.alloc _))).mono ?_
        rintro e w5 ⟨rfl, f5⟩
        rw [show (decide (((0 : Nat)) ≠ 0) && insB 0 5) = false from rfl]
        have Hf5 := Lib.hid ((hf.alloc _).trans f5)
        clear f5 hf
        go_wp2_with fail
        go_roundw
        case rel => exact ⟨6, rfl, by decide, by decide, Hf5.out⟩
        case measure => simp [intOf]
      · go_wp2_with fail
        refine (Hmt.out 6 _ _ (by decide) (by decide) (new_pcs wr 6) (HT.out.frm (hf.alloc _))).mono ?_
        rintro e w5 ⟨rfl, f5⟩
        rw [show (decide (((0 : Nat)) ≠ 0) && insB 0 6) = false from rfl]
        have Hf5 := Lib.hid ((hf.alloc _).trans f5)
        clear f5 hf
        go_wp2_with fail
        go_roundw
        case rel => exact ⟨7, rfl, by decide, by decide, Hf5.out⟩
        case measure => simp [intOf]
      · go_wp2_with fail
        refine (Hmt.out 7 _ _ (by decide) (by decide) (new_pcs wr 7) (HT.out.frm (hf.alloc _))).mono ?_
        rintro e w5 ⟨rfl, f5⟩
        rw [show (decide (((0 : Nat)) ≠ 0) && insB 0 7) = false from rfl]
        have Hf5 := Lib.hid ((hf.alloc _).trans f5)
        clear f5 hf
        go_wp2_with fail
        go_roundw
        case rel => exact ⟨8, rfl, by decide, by decide, Hf5.out⟩
        case measure => simp [intOf]
      · go_wp2_with fail
        go_ret
        exact ⟨rfl, hf⟩
  · have g2 : ¬ ((32 : Int) ≤ (c.toNat : Int)) := by omega
    go_enter Tryd.func12, Tryd.ntmps12
    go_wp2_with fail
    refine (sanity5_any w HT.out).mono ?_
    rintro e w1 ⟨rfl, f1⟩
    have Hf1 := Lib.hid f1
    clear f1
    go_wp2_with fail
    refine (Hcl'.out _).mono ?_
    rintro e w2 ⟨rfl, rfl⟩
    go_wp2_with fail
    refine (Hrc'.out _).mono ?_
    rintro e w2 ⟨rfl, rfl⟩
    have hcv := conv_one c w1
    go_wp2_with fail
    go_loopw [6] (fun sk wr => ∃ n : Int, sk = .int .i64 n ∧ 1 ≤ n ∧ n ≤ 8 ∧ Frm (fun _ => False) w wr) (fun sk _ => 8 - (intOf sk).toNat)
    case atStart => exact ⟨1, rfl, by omega, by omega, Hf1.out.alloc _⟩
    case round =>
      clear hcv
      obtain ⟨n, rfl, hn1, hn8, hf⟩ := hrel
      have hn : n = 1 ∨ n = 2 ∨ n = 3 ∨ n = 4 ∨ n = 5 ∨ n = 6 ∨ n = 7 ∨ n = 8 := by omega
      clear hn1 hn8
      rcases hn with rfl | rfl | rfl | rfl | rfl | rfl | rfl | rfl
      · go_wp2_with fail
        refine (Hmt.out 1 _ _ (by decide) (by decide) (new_pcs wr 1) (HT.out.frm (hf.alloc _))).mono ?_
        rintro e w5 ⟨rfl, f5⟩
        rw [show (decide (((0 : Nat)) ≠ 0) && insB 0 1) = false from rfl]
        have Hf5 := Lib.hid ((hf.alloc _).trans f5)
        clear f5 hf
        go_wp2_with fail
        go_roundw
        case rel => exact ⟨2, rfl, by decide, by decide, Hf5.out⟩
        case measure => simp [intOf]
      · go_wp2_with fail
        refine (Hmt.out 2 _ _ (by decide) (by decide) (new_pcs wr 2) (HT.out.frm (hf.alloc _))).mono ?_
        rintro e w5 ⟨rfl, f5⟩
        rw [show (decide (((0 : Nat)) ≠ 0) && insB 0 2) = false from rfl]
        have Hf5 := Lib.hid ((hf.alloc _).trans f5)
        clear f5 hf
        go_wp2_with fail
        go_roundw
        case rel => exact ⟨3, rfl, by decide, by decide, Hf5.out⟩
        case measure => simp [intOf]
      · go_wp2_with fail
        refine (Hmt.out 3 _ _ (by decide) (by decide) (new_pcs wr 3) (HT.out.frm (hf.alloc _))).mono ?_
        rintro e w5 ⟨rfl, f5⟩
        rw [show (decide (((0 : Nat)) ≠ 0) && insB 0 3) = false from rfl]
        have Hf5 := Lib.hid ((hf.alloc _).trans f5)
        clear f5 hf
        go_wp2_with fail
        go_roundw
        case rel => exact ⟨4, rfl, by decide, by decide, Hf5.out⟩
        case measure => simp [intOf]
      · go_wp2_with fail
        refine (Hmt.out 4 _ _ (by decide) (by decide) (new_pcs wr 4) (HT.out.frm (hf.alloc _))).mono ?_
        rintro e w5 ⟨rfl, f5⟩
        rw [show (decide (((0 : Nat)) ≠ 0) && insB 0 4) = false from rfl]
        have Hf5 := Lib.hid ((hf.alloc _).trans f5)
        clear f5 hf
        go_wp2_with fail
        go_roundw
        case rel => exact ⟨5, rfl, by decide, by decide, Hf5.out⟩
        case measure => simp [intOf]
      · go_wp2_with fail
        refine (Hmt.out 5 _ _ (by decide) (by decide) (new_pcs wr 5) (HT.out.frm (hf.alloc _))).mono ?_
        rintro e w5 ⟨rfl, f5⟩
        rw [show (decide (((0 : Nat)) ≠ 0) && insB 0 5) = false from rfl]
        have Hf5 := Lib.hid ((hf.alloc _).trans f5)
        clear f5 hf
        go_wp2_with fail
        go_roundw
        case rel => exact ⟨6, rfl, by decide, by decide, Hf5.out⟩
        case measure => simp [intOf]
      · go_wp2_with fail
        refine (Hmt.out 6 _ _ (by decide) (by decide) (new_pcs wr 6) (HT.out.frm (hf.alloc _))).mono ?_
        rintro e w5 ⟨rfl, f5⟩
        rw [show (decide (((0 : Nat)) ≠ 0) && insB 0 6) = false from rfl]
        have Hf5 := Lib.hid ((hf.alloc _).trans f5)
        clear f5 hf
        go_wp2_with fail
        go_roundw
        case rel => exact ⟨7, rfl, by decide, by decide, Hf5.out⟩
        case measure => simp [intOf]
      · go_wp2_with fail
        refine (Hmt.out 7 _ _ (by decide) (by decide) (new_pcs wr 7) (HT.out.frm (hf.alloc _))).mono ?_
        rintro e w5 ⟨rfl, f5⟩
        rw [show (decide (((0 : Nat)) ≠ 0) && insB 0 7) = false from rfl]
        have Hf5 := Lib.hid ((hf.alloc _).trans f5)
        clear f5 hf
        go_wp2_with fail
        go_roundw
        case rel => exact ⟨8, rfl, by decide, by decide, Hf5.out⟩
        case measure => simp [intOf]
      · go_wp2_with fail
        go_ret
        exact ⟨rfl, hf⟩
set_option maxRecDepth 100000 in
set_option maxHeartbeats 8000000 in
theorem law_class1 (c : UInt8) (hk : clsB c = 1) (w : World) (hT : Tabs w) : Calls Tryd.prog 12 #[.int .u8 c.toNat] w fun e w' => e = .returned (.bool true) ∧ Frm (fun _ => False) w w' := by
  have hcc := cls_chr c
  rw [hk] at hcc
  have HT := Lib.hid hT
  have hcl := class_any c
  rw [hk] at hcl
  have hrc := rclass_any c
  rw [hk] at hrc
  have Hcl : ∀ w : World, Calls Tryd.prog 46 #[.int .u8 c.toNat] w fun e w' => e = .returned (.int .i64 1) ∧ w = w' := hcl
  have Hrc : ∀ w : World, Calls Tryd.prog 47 #[.int .u8 c.toNat] w fun e w' => e = .returned (.int .i64 1) ∧ w = w' := hrc
  have hmt : ∀ (n : Int) (w1 : World) (v : Value), 1 ≤ n → n ≤ 7 → Pcs w1 v [⟨n, 1, 1, ⟨#[]⟩⟩] → Tabs w1 → Calls Tryd.prog 42 #[v, .string ⟨#[c]⟩] w1 fun e w' => e = .returned (.bool (decide (((1 : Nat)) ≠ 0) && insB 1 n)) ∧ Frm (fun _ => False) w1 w' :=
    fun n w1 v h1 h7 h h2 => by
      have := matches_any w1 ⟨#[c]⟩ (by show 1 ≤ _; omega) h (small_one n) (by show 1 ≤ 1000; omega) h2
      have e : matchB [⟨n, 1, 1, ⟨#[]⟩⟩] (⟨#[c]⟩ : ByteArray).data.toList = (decide (((1 : Nat)) ≠ 0) && insB 1 n) := by
        show matchB [⟨n, 1, 1, ⟨#[]⟩⟩] [c] = _
        rw [one_match n c h1 h7, hk]
        rfl
      rw [e] at this
      exact this
  have Hmt := Lib.hid hmt
  have Hcl' := Lib.hid Hcl
  have Hrc' := Lib.hid Hrc
  clear hT hmt hk hcl hrc Hcl Hrc
  have key : 32 ≤ c.toNat ∧ c.toNat ≤ 126 := by rw [← hcc]; decide
  clear hcc
  obtain ⟨ha, hb⟩ := key
  have g2 : (32 : Int) ≤ (c.toNat : Int) := by omega
  have g3 : (c.toNat : Int) ≤ 126 := by omega
  go_enter Tryd.func12, Tryd.ntmps12
  go_wp2_with fail
  refine (sanity5_any w HT.out).mono ?_
  rintro e w1 ⟨rfl, f1⟩
  have Hf1 := Lib.hid f1
  clear f1
  go_wp2_with fail
  refine (Hcl'.out _).mono ?_
  rintro e w2 ⟨rfl, rfl⟩
  go_wp2_with fail
  refine (Hrc'.out _).mono ?_
  rintro e w2 ⟨rfl, rfl⟩
  have hcv := conv_one c w1
  go_wp2_with fail
  go_loopw [6] (fun sk wr => ∃ n : Int, sk = .int .i64 n ∧ 1 ≤ n ∧ n ≤ 8 ∧ Frm (fun _ => False) w wr) (fun sk _ => 8 - (intOf sk).toNat)
  case atStart => exact ⟨1, rfl, by omega, by omega, Hf1.out.alloc _⟩
  case round =>
    clear hcv
    obtain ⟨n, rfl, hn1, hn8, hf⟩ := hrel
    have hn : n = 1 ∨ n = 2 ∨ n = 3 ∨ n = 4 ∨ n = 5 ∨ n = 6 ∨ n = 7 ∨ n = 8 := by omega
    clear hn1 hn8
    rcases hn with rfl | rfl | rfl | rfl | rfl | rfl | rfl | rfl
    · go_wp2_with fail
      refine (Hmt.out 1 _ _ (by decide) (by decide) (new_pcs wr 1) (HT.out.frm (hf.alloc _))).mono ?_
      rintro e w5 ⟨rfl, f5⟩
      rw [show (decide (((1 : Nat)) ≠ 0) && insB 1 1) = true from rfl]
      have Hf5 := Lib.hid ((hf.alloc _).trans f5)
      clear f5 hf
      go_wp2_with fail
      go_roundw
      case rel => exact ⟨2, rfl, by decide, by decide, Hf5.out⟩
      case measure => simp [intOf]
    · go_wp2_with fail
      refine (Hmt.out 2 _ _ (by decide) (by decide) (new_pcs wr 2) (HT.out.frm (hf.alloc _))).mono ?_
      rintro e w5 ⟨rfl, f5⟩
      rw [show (decide (((1 : Nat)) ≠ 0) && insB 1 2) = false from rfl]
      have Hf5 := Lib.hid ((hf.alloc _).trans f5)
      clear f5 hf
      go_wp2_with fail
      go_roundw
      case rel => exact ⟨3, rfl, by decide, by decide, Hf5.out⟩
      case measure => simp [intOf]
    · go_wp2_with fail
      refine (Hmt.out 3 _ _ (by decide) (by decide) (new_pcs wr 3) (HT.out.frm (hf.alloc _))).mono ?_
      rintro e w5 ⟨rfl, f5⟩
      rw [show (decide (((1 : Nat)) ≠ 0) && insB 1 3) = false from rfl]
      have Hf5 := Lib.hid ((hf.alloc _).trans f5)
      clear f5 hf
      go_wp2_with fail
      go_roundw
      case rel => exact ⟨4, rfl, by decide, by decide, Hf5.out⟩
      case measure => simp [intOf]
    · go_wp2_with fail
      refine (Hmt.out 4 _ _ (by decide) (by decide) (new_pcs wr 4) (HT.out.frm (hf.alloc _))).mono ?_
      rintro e w5 ⟨rfl, f5⟩
      rw [show (decide (((1 : Nat)) ≠ 0) && insB 1 4) = false from rfl]
      have Hf5 := Lib.hid ((hf.alloc _).trans f5)
      clear f5 hf
      go_wp2_with fail
      go_roundw
      case rel => exact ⟨5, rfl, by decide, by decide, Hf5.out⟩
      case measure => simp [intOf]
    · go_wp2_with fail
      refine (Hmt.out 5 _ _ (by decide) (by decide) (new_pcs wr 5) (HT.out.frm (hf.alloc _))).mono ?_
      rintro e w5 ⟨rfl, f5⟩
      rw [show (decide (((1 : Nat)) ≠ 0) && insB 1 5) = false from rfl]
      have Hf5 := Lib.hid ((hf.alloc _).trans f5)
      clear f5 hf
      go_wp2_with fail
      go_roundw
      case rel => exact ⟨6, rfl, by decide, by decide, Hf5.out⟩
      case measure => simp [intOf]
    · go_wp2_with fail
      refine (Hmt.out 6 _ _ (by decide) (by decide) (new_pcs wr 6) (HT.out.frm (hf.alloc _))).mono ?_
      rintro e w5 ⟨rfl, f5⟩
      rw [show (decide (((1 : Nat)) ≠ 0) && insB 1 6) = false from rfl]
      have Hf5 := Lib.hid ((hf.alloc _).trans f5)
      clear f5 hf
      go_wp2_with fail
      go_roundw
      case rel => exact ⟨7, rfl, by decide, by decide, Hf5.out⟩
      case measure => simp [intOf]
    · go_wp2_with fail
      refine (Hmt.out 7 _ _ (by decide) (by decide) (new_pcs wr 7) (HT.out.frm (hf.alloc _))).mono ?_
      rintro e w5 ⟨rfl, f5⟩
      rw [show (decide (((1 : Nat)) ≠ 0) && insB 1 7) = true from rfl]
      have Hf5 := Lib.hid ((hf.alloc _).trans f5)
      clear f5 hf
      go_wp2_with fail
      go_roundw
      case rel => exact ⟨8, rfl, by decide, by decide, Hf5.out⟩
      case measure => simp [intOf]
    · go_wp2_with fail
      go_ret
      exact ⟨rfl, hf⟩
set_option maxRecDepth 100000 in
set_option maxHeartbeats 8000000 in
theorem law_class2 (c : UInt8) (hk : clsB c = 2) (w : World) (hT : Tabs w) : Calls Tryd.prog 12 #[.int .u8 c.toNat] w fun e w' => e = .returned (.bool true) ∧ Frm (fun _ => False) w w' := by
  have hcc := cls_chr c
  rw [hk] at hcc
  have HT := Lib.hid hT
  have hcl := class_any c
  rw [hk] at hcl
  have hrc := rclass_any c
  rw [hk] at hrc
  have Hcl : ∀ w : World, Calls Tryd.prog 46 #[.int .u8 c.toNat] w fun e w' => e = .returned (.int .i64 2) ∧ w = w' := hcl
  have Hrc : ∀ w : World, Calls Tryd.prog 47 #[.int .u8 c.toNat] w fun e w' => e = .returned (.int .i64 2) ∧ w = w' := hrc
  have hmt : ∀ (n : Int) (w1 : World) (v : Value), 1 ≤ n → n ≤ 7 → Pcs w1 v [⟨n, 1, 1, ⟨#[]⟩⟩] → Tabs w1 → Calls Tryd.prog 42 #[v, .string ⟨#[c]⟩] w1 fun e w' => e = .returned (.bool (decide (((2 : Nat)) ≠ 0) && insB 2 n)) ∧ Frm (fun _ => False) w1 w' :=
    fun n w1 v h1 h7 h h2 => by
      have := matches_any w1 ⟨#[c]⟩ (by show 1 ≤ _; omega) h (small_one n) (by show 1 ≤ 1000; omega) h2
      have e : matchB [⟨n, 1, 1, ⟨#[]⟩⟩] (⟨#[c]⟩ : ByteArray).data.toList = (decide (((2 : Nat)) ≠ 0) && insB 2 n) := by
        show matchB [⟨n, 1, 1, ⟨#[]⟩⟩] [c] = _
        rw [one_match n c h1 h7, hk]
        rfl
      rw [e] at this
      exact this
  have Hmt := Lib.hid hmt
  have Hcl' := Lib.hid Hcl
  have Hrc' := Lib.hid Hrc
  clear hT hmt hk hcl hrc Hcl Hrc
  have key : 32 ≤ c.toNat ∧ c.toNat ≤ 126 := by rw [← hcc]; decide
  clear hcc
  obtain ⟨ha, hb⟩ := key
  have g2 : (32 : Int) ≤ (c.toNat : Int) := by omega
  have g3 : (c.toNat : Int) ≤ 126 := by omega
  go_enter Tryd.func12, Tryd.ntmps12
  go_wp2_with fail
  refine (sanity5_any w HT.out).mono ?_
  rintro e w1 ⟨rfl, f1⟩
  have Hf1 := Lib.hid f1
  clear f1
  go_wp2_with fail
  refine (Hcl'.out _).mono ?_
  rintro e w2 ⟨rfl, rfl⟩
  go_wp2_with fail
  refine (Hrc'.out _).mono ?_
  rintro e w2 ⟨rfl, rfl⟩
  have hcv := conv_one c w1
  go_wp2_with fail
  go_loopw [6] (fun sk wr => ∃ n : Int, sk = .int .i64 n ∧ 1 ≤ n ∧ n ≤ 8 ∧ Frm (fun _ => False) w wr) (fun sk _ => 8 - (intOf sk).toNat)
  case atStart => exact ⟨1, rfl, by omega, by omega, Hf1.out.alloc _⟩
  case round =>
    clear hcv
    obtain ⟨n, rfl, hn1, hn8, hf⟩ := hrel
    have hn : n = 1 ∨ n = 2 ∨ n = 3 ∨ n = 4 ∨ n = 5 ∨ n = 6 ∨ n = 7 ∨ n = 8 := by omega
    clear hn1 hn8
    rcases hn with rfl | rfl | rfl | rfl | rfl | rfl | rfl | rfl
    · go_wp2_with fail
      refine (Hmt.out 1 _ _ (by decide) (by decide) (new_pcs wr 1) (HT.out.frm (hf.alloc _))).mono ?_
      rintro e w5 ⟨rfl, f5⟩
      rw [show (decide (((2 : Nat)) ≠ 0) && insB 2 1) = false from rfl]
      have Hf5 := Lib.hid ((hf.alloc _).trans f5)
      clear f5 hf
      go_wp2_with fail
      go_roundw
      case rel => exact ⟨2, rfl, by decide, by decide, Hf5.out⟩
      case measure => simp [intOf]
    · go_wp2_with fail
      refine (Hmt.out 2 _ _ (by decide) (by decide) (new_pcs wr 2) (HT.out.frm (hf.alloc _))).mono ?_
      rintro e w5 ⟨rfl, f5⟩
      rw [show (decide (((2 : Nat)) ≠ 0) && insB 2 2) = true from rfl]
      have Hf5 := Lib.hid ((hf.alloc _).trans f5)
      clear f5 hf
      go_wp2_with fail
      go_roundw
      case rel => exact ⟨3, rfl, by decide, by decide, Hf5.out⟩
      case measure => simp [intOf]
    · go_wp2_with fail
      refine (Hmt.out 3 _ _ (by decide) (by decide) (new_pcs wr 3) (HT.out.frm (hf.alloc _))).mono ?_
      rintro e w5 ⟨rfl, f5⟩
      rw [show (decide (((2 : Nat)) ≠ 0) && insB 2 3) = false from rfl]
      have Hf5 := Lib.hid ((hf.alloc _).trans f5)
      clear f5 hf
      go_wp2_with fail
      go_roundw
      case rel => exact ⟨4, rfl, by decide, by decide, Hf5.out⟩
      case measure => simp [intOf]
    · go_wp2_with fail
      refine (Hmt.out 4 _ _ (by decide) (by decide) (new_pcs wr 4) (HT.out.frm (hf.alloc _))).mono ?_
      rintro e w5 ⟨rfl, f5⟩
      rw [show (decide (((2 : Nat)) ≠ 0) && insB 2 4) = true from rfl]
      have Hf5 := Lib.hid ((hf.alloc _).trans f5)
      clear f5 hf
      go_wp2_with fail
      go_roundw
      case rel => exact ⟨5, rfl, by decide, by decide, Hf5.out⟩
      case measure => simp [intOf]
    · go_wp2_with fail
      refine (Hmt.out 5 _ _ (by decide) (by decide) (new_pcs wr 5) (HT.out.frm (hf.alloc _))).mono ?_
      rintro e w5 ⟨rfl, f5⟩
      rw [show (decide (((2 : Nat)) ≠ 0) && insB 2 5) = false from rfl]
      have Hf5 := Lib.hid ((hf.alloc _).trans f5)
      clear f5 hf
      go_wp2_with fail
      go_roundw
      case rel => exact ⟨6, rfl, by decide, by decide, Hf5.out⟩
      case measure => simp [intOf]
    · go_wp2_with fail
      refine (Hmt.out 6 _ _ (by decide) (by decide) (new_pcs wr 6) (HT.out.frm (hf.alloc _))).mono ?_
      rintro e w5 ⟨rfl, f5⟩
      rw [show (decide (((2 : Nat)) ≠ 0) && insB 2 6) = false from rfl]
      have Hf5 := Lib.hid ((hf.alloc _).trans f5)
      clear f5 hf
      go_wp2_with fail
      go_roundw
      case rel => exact ⟨7, rfl, by decide, by decide, Hf5.out⟩
      case measure => simp [intOf]
    · go_wp2_with fail
      refine (Hmt.out 7 _ _ (by decide) (by decide) (new_pcs wr 7) (HT.out.frm (hf.alloc _))).mono ?_
      rintro e w5 ⟨rfl, f5⟩
      rw [show (decide (((2 : Nat)) ≠ 0) && insB 2 7) = true from rfl]
      have Hf5 := Lib.hid ((hf.alloc _).trans f5)
      clear f5 hf
      go_wp2_with fail
      go_roundw
      case rel => exact ⟨8, rfl, by decide, by decide, Hf5.out⟩
      case measure => simp [intOf]
    · go_wp2_with fail
      go_ret
      exact ⟨rfl, hf⟩
set_option maxRecDepth 100000 in
set_option maxHeartbeats 8000000 in
theorem law_class3 (c : UInt8) (hk : clsB c = 3) (w : World) (hT : Tabs w) : Calls Tryd.prog 12 #[.int .u8 c.toNat] w fun e w' => e = .returned (.bool true) ∧ Frm (fun _ => False) w w' := by
  have hcc := cls_chr c
  rw [hk] at hcc
  have HT := Lib.hid hT
  have hcl := class_any c
  rw [hk] at hcl
  have hrc := rclass_any c
  rw [hk] at hrc
  have Hcl : ∀ w : World, Calls Tryd.prog 46 #[.int .u8 c.toNat] w fun e w' => e = .returned (.int .i64 3) ∧ w = w' := hcl
  have Hrc : ∀ w : World, Calls Tryd.prog 47 #[.int .u8 c.toNat] w fun e w' => e = .returned (.int .i64 3) ∧ w = w' := hrc
  have hmt : ∀ (n : Int) (w1 : World) (v : Value), 1 ≤ n → n ≤ 7 → Pcs w1 v [⟨n, 1, 1, ⟨#[]⟩⟩] → Tabs w1 → Calls Tryd.prog 42 #[v, .string ⟨#[c]⟩] w1 fun e w' => e = .returned (.bool (decide (((3 : Nat)) ≠ 0) && insB 3 n)) ∧ Frm (fun _ => False) w1 w' :=
    fun n w1 v h1 h7 h h2 => by
      have := matches_any w1 ⟨#[c]⟩ (by show 1 ≤ _; omega) h (small_one n) (by show 1 ≤ 1000; omega) h2
      have e : matchB [⟨n, 1, 1, ⟨#[]⟩⟩] (⟨#[c]⟩ : ByteArray).data.toList = (decide (((3 : Nat)) ≠ 0) && insB 3 n) := by
        show matchB [⟨n, 1, 1, ⟨#[]⟩⟩] [c] = _
        rw [one_match n c h1 h7, hk]
        rfl
      rw [e] at this
      exact this
  have Hmt := Lib.hid hmt
  have Hcl' := Lib.hid Hcl
  have Hrc' := Lib.hid Hrc
  clear hT hmt hk hcl hrc Hcl Hrc
  have key : 32 ≤ c.toNat ∧ c.toNat ≤ 126 := by rw [← hcc]; decide
  clear hcc
  obtain ⟨ha, hb⟩ := key
  have g2 : (32 : Int) ≤ (c.toNat : Int) := by omega
  have g3 : (c.toNat : Int) ≤ 126 := by omega
  go_enter Tryd.func12, Tryd.ntmps12
  go_wp2_with fail
  refine (sanity5_any w HT.out).mono ?_
  rintro e w1 ⟨rfl, f1⟩
  have Hf1 := Lib.hid f1
  clear f1
  go_wp2_with fail
  refine (Hcl'.out _).mono ?_
  rintro e w2 ⟨rfl, rfl⟩
  go_wp2_with fail
  refine (Hrc'.out _).mono ?_
  rintro e w2 ⟨rfl, rfl⟩
  have hcv := conv_one c w1
  go_wp2_with fail
  go_loopw [6] (fun sk wr => ∃ n : Int, sk = .int .i64 n ∧ 1 ≤ n ∧ n ≤ 8 ∧ Frm (fun _ => False) w wr) (fun sk _ => 8 - (intOf sk).toNat)
  case atStart => exact ⟨1, rfl, by omega, by omega, Hf1.out.alloc _⟩
  case round =>
    clear hcv
    obtain ⟨n, rfl, hn1, hn8, hf⟩ := hrel
    have hn : n = 1 ∨ n = 2 ∨ n = 3 ∨ n = 4 ∨ n = 5 ∨ n = 6 ∨ n = 7 ∨ n = 8 := by omega
    clear hn1 hn8
    rcases hn with rfl | rfl | rfl | rfl | rfl | rfl | rfl | rfl
    · go_wp2_with fail
      refine (Hmt.out 1 _ _ (by decide) (by decide) (new_pcs wr 1) (HT.out.frm (hf.alloc _))).mono ?_
      rintro e w5 ⟨rfl, f5⟩
      rw [show (decide (((3 : Nat)) ≠ 0) && insB 3 1) = false from rfl]
      have Hf5 := Lib.hid ((hf.alloc _).trans f5)
      clear f5 hf
      go_wp2_with fail
      go_roundw
      case rel => exact ⟨2, rfl, by decide, by decide, Hf5.out⟩
      case measure => simp [intOf]
    · go_wp2_with fail
      refine (Hmt.out 2 _ _ (by decide) (by decide) (new_pcs wr 2) (HT.out.frm (hf.alloc _))).mono ?_
      rintro e w5 ⟨rfl, f5⟩
      rw [show (decide (((3 : Nat)) ≠ 0) && insB 3 2) = false from rfl]
      have Hf5 := Lib.hid ((hf.alloc _).trans f5)
      clear f5 hf
      go_wp2_with fail
      go_roundw
      case rel => exact ⟨3, rfl, by decide, by decide, Hf5.out⟩
      case measure => simp [intOf]
    · go_wp2_with fail
      refine (Hmt.out 3 _ _ (by decide) (by decide) (new_pcs wr 3) (HT.out.frm (hf.alloc _))).mono ?_
      rintro e w5 ⟨rfl, f5⟩
      rw [show (decide (((3 : Nat)) ≠ 0) && insB 3 3) = true from rfl]
      have Hf5 := Lib.hid ((hf.alloc _).trans f5)
      clear f5 hf
      go_wp2_with fail
      go_roundw
      case rel => exact ⟨4, rfl, by decide, by decide, Hf5.out⟩
      case measure => simp [intOf]
    · go_wp2_with fail
      refine (Hmt.out 4 _ _ (by decide) (by decide) (new_pcs wr 4) (HT.out.frm (hf.alloc _))).mono ?_
      rintro e w5 ⟨rfl, f5⟩
      rw [show (decide (((3 : Nat)) ≠ 0) && insB 3 4) = true from rfl]
      have Hf5 := Lib.hid ((hf.alloc _).trans f5)
      clear f5 hf
      go_wp2_with fail
      go_roundw
      case rel => exact ⟨5, rfl, by decide, by decide, Hf5.out⟩
      case measure => simp [intOf]
    · go_wp2_with fail
      refine (Hmt.out 5 _ _ (by decide) (by decide) (new_pcs wr 5) (HT.out.frm (hf.alloc _))).mono ?_
      rintro e w5 ⟨rfl, f5⟩
      rw [show (decide (((3 : Nat)) ≠ 0) && insB 3 5) = false from rfl]
      have Hf5 := Lib.hid ((hf.alloc _).trans f5)
      clear f5 hf
      go_wp2_with fail
      go_roundw
      case rel => exact ⟨6, rfl, by decide, by decide, Hf5.out⟩
      case measure => simp [intOf]
    · go_wp2_with fail
      refine (Hmt.out 6 _ _ (by decide) (by decide) (new_pcs wr 6) (HT.out.frm (hf.alloc _))).mono ?_
      rintro e w5 ⟨rfl, f5⟩
      rw [show (decide (((3 : Nat)) ≠ 0) && insB 3 6) = false from rfl]
      have Hf5 := Lib.hid ((hf.alloc _).trans f5)
      clear f5 hf
      go_wp2_with fail
      go_roundw
      case rel => exact ⟨7, rfl, by decide, by decide, Hf5.out⟩
      case measure => simp [intOf]
    · go_wp2_with fail
      refine (Hmt.out 7 _ _ (by decide) (by decide) (new_pcs wr 7) (HT.out.frm (hf.alloc _))).mono ?_
      rintro e w5 ⟨rfl, f5⟩
      rw [show (decide (((3 : Nat)) ≠ 0) && insB 3 7) = true from rfl]
      have Hf5 := Lib.hid ((hf.alloc _).trans f5)
      clear f5 hf
      go_wp2_with fail
      go_roundw
      case rel => exact ⟨8, rfl, by decide, by decide, Hf5.out⟩
      case measure => simp [intOf]
    · go_wp2_with fail
      go_ret
      exact ⟨rfl, hf⟩
set_option maxRecDepth 100000 in
set_option maxHeartbeats 8000000 in
theorem law_class5 (c : UInt8) (hk : clsB c = 5) (w : World) (hT : Tabs w) : Calls Tryd.prog 12 #[.int .u8 c.toNat] w fun e w' => e = .returned (.bool true) ∧ Frm (fun _ => False) w w' := by
  have hcc := cls_chr c
  rw [hk] at hcc
  have HT := Lib.hid hT
  have hcl := class_any c
  rw [hk] at hcl
  have hrc := rclass_any c
  rw [hk] at hrc
  have Hcl : ∀ w : World, Calls Tryd.prog 46 #[.int .u8 c.toNat] w fun e w' => e = .returned (.int .i64 5) ∧ w = w' := hcl
  have Hrc : ∀ w : World, Calls Tryd.prog 47 #[.int .u8 c.toNat] w fun e w' => e = .returned (.int .i64 5) ∧ w = w' := hrc
  have hmt : ∀ (n : Int) (w1 : World) (v : Value), 1 ≤ n → n ≤ 7 → Pcs w1 v [⟨n, 1, 1, ⟨#[]⟩⟩] → Tabs w1 → Calls Tryd.prog 42 #[v, .string ⟨#[c]⟩] w1 fun e w' => e = .returned (.bool (decide (((5 : Nat)) ≠ 0) && insB 5 n)) ∧ Frm (fun _ => False) w1 w' :=
    fun n w1 v h1 h7 h h2 => by
      have := matches_any w1 ⟨#[c]⟩ (by show 1 ≤ _; omega) h (small_one n) (by show 1 ≤ 1000; omega) h2
      have e : matchB [⟨n, 1, 1, ⟨#[]⟩⟩] (⟨#[c]⟩ : ByteArray).data.toList = (decide (((5 : Nat)) ≠ 0) && insB 5 n) := by
        show matchB [⟨n, 1, 1, ⟨#[]⟩⟩] [c] = _
        rw [one_match n c h1 h7, hk]
        rfl
      rw [e] at this
      exact this
  have Hmt := Lib.hid hmt
  have Hcl' := Lib.hid Hcl
  have Hrc' := Lib.hid Hrc
  clear hT hmt hk hcl hrc Hcl Hrc
  have key : 32 ≤ c.toNat ∧ c.toNat ≤ 126 := by rw [← hcc]; decide
  clear hcc
  obtain ⟨ha, hb⟩ := key
  have g2 : (32 : Int) ≤ (c.toNat : Int) := by omega
  have g3 : (c.toNat : Int) ≤ 126 := by omega
  go_enter Tryd.func12, Tryd.ntmps12
  go_wp2_with fail
  refine (sanity5_any w HT.out).mono ?_
  rintro e w1 ⟨rfl, f1⟩
  have Hf1 := Lib.hid f1
  clear f1
  go_wp2_with fail
  refine (Hcl'.out _).mono ?_
  rintro e w2 ⟨rfl, rfl⟩
  go_wp2_with fail
  refine (Hrc'.out _).mono ?_
  rintro e w2 ⟨rfl, rfl⟩
  have hcv := conv_one c w1
  go_wp2_with fail
  go_loopw [6] (fun sk wr => ∃ n : Int, sk = .int .i64 n ∧ 1 ≤ n ∧ n ≤ 8 ∧ Frm (fun _ => False) w wr) (fun sk _ => 8 - (intOf sk).toNat)
  case atStart => exact ⟨1, rfl, by omega, by omega, Hf1.out.alloc _⟩
  case round =>
    clear hcv
    obtain ⟨n, rfl, hn1, hn8, hf⟩ := hrel
    have hn : n = 1 ∨ n = 2 ∨ n = 3 ∨ n = 4 ∨ n = 5 ∨ n = 6 ∨ n = 7 ∨ n = 8 := by omega
    clear hn1 hn8
    rcases hn with rfl | rfl | rfl | rfl | rfl | rfl | rfl | rfl
    · go_wp2_with fail
      refine (Hmt.out 1 _ _ (by decide) (by decide) (new_pcs wr 1) (HT.out.frm (hf.alloc _))).mono ?_
      rintro e w5 ⟨rfl, f5⟩
      rw [show (decide (((5 : Nat)) ≠ 0) && insB 5 1) = false from rfl]
      have Hf5 := Lib.hid ((hf.alloc _).trans f5)
      clear f5 hf
      go_wp2_with fail
      go_roundw
      case rel => exact ⟨2, rfl, by decide, by decide, Hf5.out⟩
      case measure => simp [intOf]
    · go_wp2_with fail
      refine (Hmt.out 2 _ _ (by decide) (by decide) (new_pcs wr 2) (HT.out.frm (hf.alloc _))).mono ?_
      rintro e w5 ⟨rfl, f5⟩
      rw [show (decide (((5 : Nat)) ≠ 0) && insB 5 2) = false from rfl]
      have Hf5 := Lib.hid ((hf.alloc _).trans f5)
      clear f5 hf
      go_wp2_with fail
      go_roundw
      case rel => exact ⟨3, rfl, by decide, by decide, Hf5.out⟩
      case measure => simp [intOf]
    · go_wp2_with fail
      refine (Hmt.out 3 _ _ (by decide) (by decide) (new_pcs wr 3) (HT.out.frm (hf.alloc _))).mono ?_
      rintro e w5 ⟨rfl, f5⟩
      rw [show (decide (((5 : Nat)) ≠ 0) && insB 5 3) = false from rfl]
      have Hf5 := Lib.hid ((hf.alloc _).trans f5)
      clear f5 hf
      go_wp2_with fail
      go_roundw
      case rel => exact ⟨4, rfl, by decide, by decide, Hf5.out⟩
      case measure => simp [intOf]
    · go_wp2_with fail
      refine (Hmt.out 4 _ _ (by decide) (by decide) (new_pcs wr 4) (HT.out.frm (hf.alloc _))).mono ?_
      rintro e w5 ⟨rfl, f5⟩
      rw [show (decide (((5 : Nat)) ≠ 0) && insB 5 4) = false from rfl]
      have Hf5 := Lib.hid ((hf.alloc _).trans f5)
      clear f5 hf
      go_wp2_with fail
      go_roundw
      case rel => exact ⟨5, rfl, by decide, by decide, Hf5.out⟩
      case measure => simp [intOf]
    · go_wp2_with fail
      refine (Hmt.out 5 _ _ (by decide) (by decide) (new_pcs wr 5) (HT.out.frm (hf.alloc _))).mono ?_
      rintro e w5 ⟨rfl, f5⟩
      rw [show (decide (((5 : Nat)) ≠ 0) && insB 5 5) = true from rfl]
      have Hf5 := Lib.hid ((hf.alloc _).trans f5)
      clear f5 hf
      go_wp2_with fail
      go_roundw
      case rel => exact ⟨6, rfl, by decide, by decide, Hf5.out⟩
      case measure => simp [intOf]
    · go_wp2_with fail
      refine (Hmt.out 6 _ _ (by decide) (by decide) (new_pcs wr 6) (HT.out.frm (hf.alloc _))).mono ?_
      rintro e w5 ⟨rfl, f5⟩
      rw [show (decide (((5 : Nat)) ≠ 0) && insB 5 6) = false from rfl]
      have Hf5 := Lib.hid ((hf.alloc _).trans f5)
      clear f5 hf
      go_wp2_with fail
      go_roundw
      case rel => exact ⟨7, rfl, by decide, by decide, Hf5.out⟩
      case measure => simp [intOf]
    · go_wp2_with fail
      refine (Hmt.out 7 _ _ (by decide) (by decide) (new_pcs wr 7) (HT.out.frm (hf.alloc _))).mono ?_
      rintro e w5 ⟨rfl, f5⟩
      rw [show (decide (((5 : Nat)) ≠ 0) && insB 5 7) = true from rfl]
      have Hf5 := Lib.hid ((hf.alloc _).trans f5)
      clear f5 hf
      go_wp2_with fail
      go_roundw
      case rel => exact ⟨8, rfl, by decide, by decide, Hf5.out⟩
      case measure => simp [intOf]
    · go_wp2_with fail
      go_ret
      exact ⟨rfl, hf⟩
set_option maxRecDepth 100000 in
set_option maxHeartbeats 8000000 in
theorem law_class6 (c : UInt8) (hk : clsB c = 6) (w : World) (hT : Tabs w) : Calls Tryd.prog 12 #[.int .u8 c.toNat] w fun e w' => e = .returned (.bool true) ∧ Frm (fun _ => False) w w' := by
  have hcc := cls_chr c
  rw [hk] at hcc
  have HT := Lib.hid hT
  have hcl := class_any c
  rw [hk] at hcl
  have hrc := rclass_any c
  rw [hk] at hrc
  have Hcl : ∀ w : World, Calls Tryd.prog 46 #[.int .u8 c.toNat] w fun e w' => e = .returned (.int .i64 6) ∧ w = w' := hcl
  have Hrc : ∀ w : World, Calls Tryd.prog 47 #[.int .u8 c.toNat] w fun e w' => e = .returned (.int .i64 6) ∧ w = w' := hrc
  have hmt : ∀ (n : Int) (w1 : World) (v : Value), 1 ≤ n → n ≤ 7 → Pcs w1 v [⟨n, 1, 1, ⟨#[]⟩⟩] → Tabs w1 → Calls Tryd.prog 42 #[v, .string ⟨#[c]⟩] w1 fun e w' => e = .returned (.bool (decide (((6 : Nat)) ≠ 0) && insB 6 n)) ∧ Frm (fun _ => False) w1 w' :=
    fun n w1 v h1 h7 h h2 => by
      have := matches_any w1 ⟨#[c]⟩ (by show 1 ≤ _; omega) h (small_one n) (by show 1 ≤ 1000; omega) h2
      have e : matchB [⟨n, 1, 1, ⟨#[]⟩⟩] (⟨#[c]⟩ : ByteArray).data.toList = (decide (((6 : Nat)) ≠ 0) && insB 6 n) := by
        show matchB [⟨n, 1, 1, ⟨#[]⟩⟩] [c] = _
        rw [one_match n c h1 h7, hk]
        rfl
      rw [e] at this
      exact this
  have Hmt := Lib.hid hmt
  have Hcl' := Lib.hid Hcl
  have Hrc' := Lib.hid Hrc
  clear hT hmt hk hcl hrc Hcl Hrc
  have key : 32 ≤ c.toNat ∧ c.toNat ≤ 126 := by rw [← hcc]; decide
  clear hcc
  obtain ⟨ha, hb⟩ := key
  have g2 : (32 : Int) ≤ (c.toNat : Int) := by omega
  have g3 : (c.toNat : Int) ≤ 126 := by omega
  go_enter Tryd.func12, Tryd.ntmps12
  go_wp2_with fail
  refine (sanity5_any w HT.out).mono ?_
  rintro e w1 ⟨rfl, f1⟩
  have Hf1 := Lib.hid f1
  clear f1
  go_wp2_with fail
  refine (Hcl'.out _).mono ?_
  rintro e w2 ⟨rfl, rfl⟩
  go_wp2_with fail
  refine (Hrc'.out _).mono ?_
  rintro e w2 ⟨rfl, rfl⟩
  have hcv := conv_one c w1
  go_wp2_with fail
  go_loopw [6] (fun sk wr => ∃ n : Int, sk = .int .i64 n ∧ 1 ≤ n ∧ n ≤ 8 ∧ Frm (fun _ => False) w wr) (fun sk _ => 8 - (intOf sk).toNat)
  case atStart => exact ⟨1, rfl, by omega, by omega, Hf1.out.alloc _⟩
  case round =>
    clear hcv
    obtain ⟨n, rfl, hn1, hn8, hf⟩ := hrel
    have hn : n = 1 ∨ n = 2 ∨ n = 3 ∨ n = 4 ∨ n = 5 ∨ n = 6 ∨ n = 7 ∨ n = 8 := by omega
    clear hn1 hn8
    rcases hn with rfl | rfl | rfl | rfl | rfl | rfl | rfl | rfl
    · go_wp2_with fail
      refine (Hmt.out 1 _ _ (by decide) (by decide) (new_pcs wr 1) (HT.out.frm (hf.alloc _))).mono ?_
      rintro e w5 ⟨rfl, f5⟩
      rw [show (decide (((6 : Nat)) ≠ 0) && insB 6 1) = false from rfl]
      have Hf5 := Lib.hid ((hf.alloc _).trans f5)
      clear f5 hf
      go_wp2_with fail
      go_roundw
      case rel => exact ⟨2, rfl, by decide, by decide, Hf5.out⟩
      case measure => simp [intOf]
    · go_wp2_with fail
      refine (Hmt.out 2 _ _ (by decide) (by decide) (new_pcs wr 2) (HT.out.frm (hf.alloc _))).mono ?_
      rintro e w5 ⟨rfl, f5⟩
      rw [show (decide (((6 : Nat)) ≠ 0) && insB 6 2) = false from rfl]
      have Hf5 := Lib.hid ((hf.alloc _).trans f5)
      clear f5 hf
      go_wp2_with fail
      go_roundw
      case rel => exact ⟨3, rfl, by decide, by decide, Hf5.out⟩
      case measure => simp [intOf]
    · go_wp2_with fail
      refine (Hmt.out 3 _ _ (by decide) (by decide) (new_pcs wr 3) (HT.out.frm (hf.alloc _))).mono ?_
      rintro e w5 ⟨rfl, f5⟩
      rw [show (decide (((6 : Nat)) ≠ 0) && insB 6 3) = false from rfl]
      have Hf5 := Lib.hid ((hf.alloc _).trans f5)
      clear f5 hf
      go_wp2_with fail
      go_roundw
      case rel => exact ⟨4, rfl, by decide, by decide, Hf5.out⟩
      case measure => simp [intOf]
    · go_wp2_with fail
      refine (Hmt.out 4 _ _ (by decide) (by decide) (new_pcs wr 4) (HT.out.frm (hf.alloc _))).mono ?_
      rintro e w5 ⟨rfl, f5⟩
      rw [show (decide (((6 : Nat)) ≠ 0) && insB 6 4) = false from rfl]
      have Hf5 := Lib.hid ((hf.alloc _).trans f5)
      clear f5 hf
      go_wp2_with fail
      go_roundw
      case rel => exact ⟨5, rfl, by decide, by decide, Hf5.out⟩
      case measure => simp [intOf]
    · go_wp2_with fail
      refine (Hmt.out 5 _ _ (by decide) (by decide) (new_pcs wr 5) (HT.out.frm (hf.alloc _))).mono ?_
      rintro e w5 ⟨rfl, f5⟩
      rw [show (decide (((6 : Nat)) ≠ 0) && insB 6 5) = false from rfl]
      have Hf5 := Lib.hid ((hf.alloc _).trans f5)
      clear f5 hf
      go_wp2_with fail
      go_roundw
      case rel => exact ⟨6, rfl, by decide, by decide, Hf5.out⟩
      case measure => simp [intOf]
    · go_wp2_with fail
      refine (Hmt.out 6 _ _ (by decide) (by decide) (new_pcs wr 6) (HT.out.frm (hf.alloc _))).mono ?_
      rintro e w5 ⟨rfl, f5⟩
      rw [show (decide (((6 : Nat)) ≠ 0) && insB 6 6) = true from rfl]
      have Hf5 := Lib.hid ((hf.alloc _).trans f5)
      clear f5 hf
      go_wp2_with fail
      go_roundw
      case rel => exact ⟨7, rfl, by decide, by decide, Hf5.out⟩
      case measure => simp [intOf]
    · go_wp2_with fail
      refine (Hmt.out 7 _ _ (by decide) (by decide) (new_pcs wr 7) (HT.out.frm (hf.alloc _))).mono ?_
      rintro e w5 ⟨rfl, f5⟩
      rw [show (decide (((6 : Nat)) ≠ 0) && insB 6 7) = true from rfl]
      have Hf5 := Lib.hid ((hf.alloc _).trans f5)
      clear f5 hf
      go_wp2_with fail
      go_roundw
      case rel => exact ⟨8, rfl, by decide, by decide, Hf5.out⟩
      case measure => simp [intOf]
    · go_wp2_with fail
      go_ret
      exact ⟨rfl, hf⟩
theorem law_class (c : UInt8) (w : World) (hT : Tabs w) : Calls Tryd.prog 12 #[.int .u8 c.toNat] w fun e w' => e = .returned (.bool true) ∧ Frm (fun _ => False) w w' := by
  have h := cls_le c
  have h4 := cls_four c
  have : clsB c = 0 ∨ clsB c = 1 ∨ clsB c = 2 ∨ clsB c = 3 ∨ clsB c = 5 ∨ clsB c = 6 := by omega
  rcases this with h | h | h | h | h | h
  · exact law_class0 c h w hT
  · exact law_class1 c h w hT
  · exact law_class2 c h w hT
  · exact law_class3 c h w hT
  · exact law_class5 c h w hT
  · exact law_class6 c h w hT
theorem law_class_i (a : Int) (w : World) (hT : Tabs w) (ha : 0 ≤ a ∧ a ≤ 255) : Calls Tryd.prog 12 #[.int .u8 a] w fun e w' => e = .returned (.bool true) ∧ Frm (fun _ => False) w w' := by
  have h := law_class (UInt8.ofNat a.toNat) w hT
  rw [ofNat_nat _ (by omega), Int.toNat_of_nonneg ha.1] at h
  exact h
end Go.Proofs.YtgnjakaamgeibaaDoor
