/-
  The reference's Parse on written forms of a plain kind: runs without braces, and single characters. Conditions: as said.
-/
import Derived.Test.YtgnjakaamgeibaaGreatDoorRdr2
namespace Go.Proofs.YtgnjakaamgeibaaGreatDoor
open Go.RowKit Go.Shelf
attribute [local go_sem] Oper.semAt_some
theorem clsOf_nat (c : UInt8) : clsOf c = if c.toNat = 100 then 1 else if c.toNat = 117 then 2 else if c.toNat = 108 then 3 else if c.toNat = 97 then 4 else if c.toNat = 115 then 5 else if c.toNat = 111 then 6 else if c.toNat = 46 then 7 else 0 := by
  have e : ∀ d : UInt8, (c = d) = (c.toNat = d.toNat) := fun d => propext UInt8.toNat_inj.symm
  unfold clsOf
  simp only [e]
  rfl
set_option maxHeartbeats 1000000 in
theorem rcls_any (c : UInt8) (w : World) : Calls Tryz.prog 47 #[.int .u8 c.toNat] w fun e w' => e = .returned (.int .i64 (clsOf c)) ∧ w = w' := by
  rw [clsOf_nat]
  generalize c.toNat = m
  go_enter Tryz.func47, Tryz.ntmps47
  go_wp2_with fail
  go_loop [3] (fun sk => ∃ k : Nat, sk = .int .i64 k ∧ k ≤ 7 ∧ (1 ≤ k → m ≠ 100) ∧ (2 ≤ k → m ≠ 117) ∧ (3 ≤ k → m ≠ 108) ∧ (4 ≤ k → m ≠ 97) ∧ (5 ≤ k → m ≠ 115) ∧ (6 ≤ k → m ≠ 111) ∧ (7 ≤ k → m ≠ 46)) (fun sk => 7 - (intOf sk).toNat)
  case atStart => exact ⟨0, rfl, Nat.zero_le _, fun h => absurd h (by omega), fun h => absurd h (by omega), fun h => absurd h (by omega), fun h => absurd h (by omega), fun h => absurd h (by omega), fun h => absurd h (by omega), fun h => absurd h (by omega)⟩
  case round =>
    obtain ⟨k, rfl, hk, h1, h2, h3, h4, h5, h6, h7⟩ := hrel
    have hk8 : k = 0 ∨ k = 1 ∨ k = 2 ∨ k = 3 ∨ k = 4 ∨ k = 5 ∨ k = 6 ∨ k = 7 := by omega
    rcases hk8 with rfl | rfl | rfl | rfl | rfl | rfl | rfl | rfl
    · have hL : ((⟨#[100, 117, 108, 97, 115, 111, 46]⟩ : ByteArray)[0]'(by decide)).toNat = 100 := rfl
      by_cases h : m = 100
      · have hh : ((100 : Int) == (m : Int)) = true := by rw [beq_iff_eq]; omega
        clear h1 h2 h3 h4 h5 h6 h7
        subst h
        go_wp2_with fail
        go_ret
        exact ⟨rfl, rfl⟩
      · have hh : ((100 : Int) == (m : Int)) = false := by rw [beq_eq_false_iff_ne]; omega
        have hrel : 1 = 1 ∧ ∃ k : Nat, Value.int .i64 1 = .int .i64 k ∧ k ≤ 7 ∧ (1 ≤ k → m ≠ 100) ∧ (2 ≤ k → m ≠ 117) ∧ (3 ≤ k → m ≠ 108) ∧ (4 ≤ k → m ≠ 97) ∧ (5 ≤ k → m ≠ 115) ∧ (6 ≤ k → m ≠ 111) ∧ (7 ≤ k → m ≠ 46) := ⟨rfl, 1, rfl, by omega, (fun _ => h), fun h => absurd h (by omega), fun h => absurd h (by omega), fun h => absurd h (by omega), fun h => absurd h (by omega), fun h => absurd h (by omega), fun h => absurd h (by omega)⟩
        have Hrel := Lib.hid hrel
        clear hrel h1 h2 h3 h4 h5 h6 h7 h
        go_wp2_with fail
        refine ⟨Hrel.out.2, ?_⟩
        simp [intOf]
    · have hL : ((⟨#[100, 117, 108, 97, 115, 111, 46]⟩ : ByteArray)[1]'(by decide)).toNat = 117 := rfl
      by_cases h : m = 117
      · have hh : ((117 : Int) == (m : Int)) = true := by rw [beq_iff_eq]; omega
        clear h1 h2 h3 h4 h5 h6 h7
        subst h
        go_wp2_with fail
        go_ret
        exact ⟨rfl, rfl⟩
      · have hh : ((117 : Int) == (m : Int)) = false := by rw [beq_eq_false_iff_ne]; omega
        have hrel : 1 = 1 ∧ ∃ k : Nat, Value.int .i64 2 = .int .i64 k ∧ k ≤ 7 ∧ (1 ≤ k → m ≠ 100) ∧ (2 ≤ k → m ≠ 117) ∧ (3 ≤ k → m ≠ 108) ∧ (4 ≤ k → m ≠ 97) ∧ (5 ≤ k → m ≠ 115) ∧ (6 ≤ k → m ≠ 111) ∧ (7 ≤ k → m ≠ 46) := ⟨rfl, 2, rfl, by omega, (fun _ => h1 (by omega)), (fun _ => h), fun h => absurd h (by omega), fun h => absurd h (by omega), fun h => absurd h (by omega), fun h => absurd h (by omega), fun h => absurd h (by omega)⟩
        have Hrel := Lib.hid hrel
        clear hrel h1 h2 h3 h4 h5 h6 h7 h
        go_wp2_with fail
        refine ⟨Hrel.out.2, ?_⟩
        simp [intOf]
    · have hL : ((⟨#[100, 117, 108, 97, 115, 111, 46]⟩ : ByteArray)[2]'(by decide)).toNat = 108 := rfl
      by_cases h : m = 108
      · have hh : ((108 : Int) == (m : Int)) = true := by rw [beq_iff_eq]; omega
        clear h1 h2 h3 h4 h5 h6 h7
        subst h
        go_wp2_with fail
        go_ret
        exact ⟨rfl, rfl⟩
      · have hh : ((108 : Int) == (m : Int)) = false := by rw [beq_eq_false_iff_ne]; omega
        have hrel : 1 = 1 ∧ ∃ k : Nat, Value.int .i64 3 = .int .i64 k ∧ k ≤ 7 ∧ (1 ≤ k → m ≠ 100) ∧ (2 ≤ k → m ≠ 117) ∧ (3 ≤ k → m ≠ 108) ∧ (4 ≤ k → m ≠ 97) ∧ (5 ≤ k → m ≠ 115) ∧ (6 ≤ k → m ≠ 111) ∧ (7 ≤ k → m ≠ 46) := ⟨rfl, 3, rfl, by omega, (fun _ => h1 (by omega)), (fun _ => h2 (by omega)), (fun _ => h), fun h => absurd h (by omega), fun h => absurd h (by omega), fun h => absurd h (by omega), fun h => absurd h (by omega)⟩
        have Hrel := Lib.hid hrel
        clear hrel h1 h2 h3 h4 h5 h6 h7 h
        go_wp2_with fail
        refine ⟨Hrel.out.2, ?_⟩
        simp [intOf]
    · have hL : ((⟨#[100, 117, 108, 97, 115, 111, 46]⟩ : ByteArray)[3]'(by decide)).toNat = 97 := rfl
      by_cases h : m = 97
      · have hh : ((97 : Int) == (m : Int)) = true := by rw [beq_iff_eq]; omega
        clear h1 h2 h3 h4 h5 h6 h7
        subst h
        go_wp2_with fail
        go_ret
        exact ⟨rfl, rfl⟩
      · have hh : ((97 : Int) == (m : Int)) = false := by rw [beq_eq_false_iff_ne]; omega
        have hrel : 1 = 1 ∧ ∃ k : Nat, Value.int .i64 4 = .int .i64 k ∧ k ≤ 7 ∧ (1 ≤ k → m ≠ 100) ∧ (2 ≤ k → m ≠ 117) ∧ (3 ≤ k → m ≠ 108) ∧ (4 ≤ k → m ≠ 97) ∧ (5 ≤ k → m ≠ 115) ∧ (6 ≤ k → m ≠ 111) ∧ (7 ≤ k → m ≠ 46) := ⟨rfl, 4, rfl, by omega, (fun _ => h1 (by omega)), (fun _ => h2 (by omega)), (fun _ => h3 (by omega)), (fun _ => h), fun h => absurd h (by omega), fun h => absurd h (by omega), fun h => absurd h (by omega)⟩
        have Hrel := Lib.hid hrel
        clear hrel h1 h2 h3 h4 h5 h6 h7 h
        go_wp2_with fail
        refine ⟨Hrel.out.2, ?_⟩
        simp [intOf]
    · have hL : ((⟨#[100, 117, 108, 97, 115, 111, 46]⟩ : ByteArray)[4]'(by decide)).toNat = 115 := rfl
      by_cases h : m = 115
      · have hh : ((115 : Int) == (m : Int)) = true := by rw [beq_iff_eq]; omega
        clear h1 h2 h3 h4 h5 h6 h7
        subst h
        go_wp2_with fail
        go_ret
        exact ⟨rfl, rfl⟩
      · have hh : ((115 : Int) == (m : Int)) = false := by rw [beq_eq_false_iff_ne]; omega
        have hrel : 1 = 1 ∧ ∃ k : Nat, Value.int .i64 5 = .int .i64 k ∧ k ≤ 7 ∧ (1 ≤ k → m ≠ 100) ∧ (2 ≤ k → m ≠ 117) ∧ (3 ≤ k → m ≠ 108) ∧ (4 ≤ k → m ≠ 97) ∧ (5 ≤ k → m ≠ 115) ∧ (6 ≤ k → m ≠ 111) ∧ (7 ≤ k → m ≠ 46) := ⟨rfl, 5, rfl, by omega, (fun _ => h1 (by omega)), (fun _ => h2 (by omega)), (fun _ => h3 (by omega)), (fun _ => h4 (by omega)), (fun _ => h), fun h => absurd h (by omega), fun h => absurd h (by omega)⟩
        have Hrel := Lib.hid hrel
        clear hrel h1 h2 h3 h4 h5 h6 h7 h
        go_wp2_with fail
        refine ⟨Hrel.out.2, ?_⟩
        simp [intOf]
    · have hL : ((⟨#[100, 117, 108, 97, 115, 111, 46]⟩ : ByteArray)[5]'(by decide)).toNat = 111 := rfl
      by_cases h : m = 111
      · have hh : ((111 : Int) == (m : Int)) = true := by rw [beq_iff_eq]; omega
        clear h1 h2 h3 h4 h5 h6 h7
        subst h
        go_wp2_with fail
        go_ret
        exact ⟨rfl, rfl⟩
      · have hh : ((111 : Int) == (m : Int)) = false := by rw [beq_eq_false_iff_ne]; omega
        have hrel : 1 = 1 ∧ ∃ k : Nat, Value.int .i64 6 = .int .i64 k ∧ k ≤ 7 ∧ (1 ≤ k → m ≠ 100) ∧ (2 ≤ k → m ≠ 117) ∧ (3 ≤ k → m ≠ 108) ∧ (4 ≤ k → m ≠ 97) ∧ (5 ≤ k → m ≠ 115) ∧ (6 ≤ k → m ≠ 111) ∧ (7 ≤ k → m ≠ 46) := ⟨rfl, 6, rfl, by omega, (fun _ => h1 (by omega)), (fun _ => h2 (by omega)), (fun _ => h3 (by omega)), (fun _ => h4 (by omega)), (fun _ => h5 (by omega)), (fun _ => h), fun h => absurd h (by omega)⟩
        have Hrel := Lib.hid hrel
        clear hrel h1 h2 h3 h4 h5 h6 h7 h
        go_wp2_with fail
        refine ⟨Hrel.out.2, ?_⟩
        simp [intOf]
    · have hL : ((⟨#[100, 117, 108, 97, 115, 111, 46]⟩ : ByteArray)[6]'(by decide)).toNat = 46 := rfl
      by_cases h : m = 46
      · have hh : ((46 : Int) == (m : Int)) = true := by rw [beq_iff_eq]; omega
        clear h1 h2 h3 h4 h5 h6 h7
        subst h
        go_wp2_with fail
        go_ret
        exact ⟨rfl, rfl⟩
      · have hh : ((46 : Int) == (m : Int)) = false := by rw [beq_eq_false_iff_ne]; omega
        have hrel : 1 = 1 ∧ ∃ k : Nat, Value.int .i64 7 = .int .i64 k ∧ k ≤ 7 ∧ (1 ≤ k → m ≠ 100) ∧ (2 ≤ k → m ≠ 117) ∧ (3 ≤ k → m ≠ 108) ∧ (4 ≤ k → m ≠ 97) ∧ (5 ≤ k → m ≠ 115) ∧ (6 ≤ k → m ≠ 111) ∧ (7 ≤ k → m ≠ 46) := ⟨rfl, 7, rfl, by omega, (fun _ => h1 (by omega)), (fun _ => h2 (by omega)), (fun _ => h3 (by omega)), (fun _ => h4 (by omega)), (fun _ => h5 (by omega)), (fun _ => h6 (by omega)), (fun _ => h)⟩
        have Hrel := Lib.hid hrel
        clear hrel h1 h2 h3 h4 h5 h6 h7 h
        go_wp2_with fail
        refine ⟨Hrel.out.2, ?_⟩
        simp [intOf]
    · have g1 := h1 (by omega)
      have g2 := h2 (by omega)
      have g3 := h3 (by omega)
      have g4 := h4 (by omega)
      have g5 := h5 (by omega)
      have g6 := h6 (by omega)
      have g7 := h7 (by omega)
      clear h1 h2 h3 h4 h5 h6 h7
      go_wp2_with fail
      go_ret
      exact ⟨rfl, rfl⟩
def RRd (w : World) (x : Nat) (s : ByteArray) (i : Nat) : Prop := w.heap[x]? = some (.cells #[.string s, .int .i64 i, .int .i64 0, .int .i64 0] 59 (0, 0))
theorem rrd_cells {w : World} {x : Nat} {s : ByteArray} {i : Nat} (h : RRd w x s i) :
    w.cell? ⟨x, 0, none⟩ = some (.string s) ∧ w.cell? ⟨x, 1, none⟩ = some (.int .i64 i) ∧ w.cell? ⟨x, 2, none⟩ = some (.int .i64 0) ∧ w.cell? ⟨x, 3, none⟩ = some (.int .i64 0) ∧ w.frozen? ⟨x, 1, none⟩ = false := by
  unfold RRd at h
  refine ⟨?_, ?_, ?_, ?_, frozen_of_row w x 1 _ _ h⟩
  all_goals (rw [cell_of_row w x _ _ _ _ h]; rfl)
theorem RRd.still {w w' : World} {x : Nat} {s : ByteArray} {i : Nat} (h : RRd w x s i) (hf : Frm (fun _ => False) w w') : RRd w' x s i := hf.heap h (fun h => h)
theorem RRd.next {w : World} {x : Nat} {s : ByteArray} {i : Nat} (h : RRd w x s i) {n : Int} (j : Nat) (hn : n = j) : RRd (w.setCell ⟨x, 1, none⟩ (.int .i64 n)) x s j := by
  subst hn
  unfold RRd at h ⊢
  rw [heap_set h]; rfl
def ratW (x : Nat) (w : World) : Nat := match w.cell? ⟨x, 1, none⟩ with | some v => (intOf v).toNat | none => 0
theorem rat_lt {w w' : World} {x : Nat} {s : ByteArray} {i j : Nat} (h : RRd w x s i) (h' : RRd w' x s j) (hij : i < j) (hj : j ≤ s.size) : s.size - ratW x w' < s.size - ratW x w := by
  unfold ratW
  rw [(rrd_cells h).2.1, (rrd_cells h').2.1]
  simp [intOf]
  omega
theorem cnt_plain {t : List UInt8} (h1 : ∀ u, t ≠ 43 :: u) (h2 : ∀ u, t ≠ 42 :: u) (h3 : ∀ u, t ≠ 123 :: u) : cntR t = .inr (1, 1, t) :=
  cntR_no fun _c u e => ⟨fun h => h1 u (h ▸ e), fun h => h2 u (h ▸ e), fun h => h3 u (h ▸ e)⟩
set_option maxRecDepth 100000 in
set_option maxHeartbeats 2000000 in
theorem rcount_any {w : World} {x : Nat} {s : ByteArray} {i : Nat} (h : RRd w x s i) (hi : i ≤ s.size) (hs : s.size ≤ 1000) (hn : ∀ u, s.data.toList.drop i ≠ 123 :: u) :
    Calls Tryz.prog 50 #[.pointer (some ⟨x, 0, none⟩)] w fun e w' => ∃ (a b : Int) (j : Nat), cntR (s.data.toList.drop i) = .inr (a, b, s.data.toList.drop j) ∧ i ≤ j ∧ j ≤ s.size ∧ e = .returned (.tuple #[.int .i64 a, .int .i64 b]) ∧ RRd w' x s j ∧ Frm (fun k => k = x) w w' := by
  obtain ⟨c0, c1, -, -, z1⟩ := rrd_cells h
  have H := Lib.hid h
  clear h
  by_cases hlt : i < s.size
  · have t1 : ¬ ((s.size : Int) ≤ (i : Int)) := by omega
    have t2 : (0 : Int) ≤ (i : Int) := by omega
    have t3 : (i : Int) < (s.size : Int) := by omega
    have hd := pk_drop hlt
    by_cases h43 : s[i].toNat = 43
    · have e43 : s[i] = 43 := UInt8.toNat_inj.1 h43
      rw [e43] at hd
      have Hd := Lib.hid hd
      clear hd hn e43
      go_enter Tryz.func50, Tryz.ntmps50
      go_upto_region 1 with fail
      go_quiet (fail)
      go_upto_region 3 with fail
      go_quiet (fail)
      go_wp2_with fail
      refine bodyPost_ret (results_tmp2 rfl _ _ _) rfl ?_
      refine ⟨1, 200, i + 1, by rw [Hd.out]; rfl, by omega, by omega, rfl, ?_, ?_⟩
      · refine RRd.next (i := i) (RRd.still H.out ?_) _ (by omega); exact (Frm.refl _ _).drewN _
      · refine frm_at (frm_no ?_); exact (Frm.refl _ _).drewN _
    · by_cases h42 : s[i].toNat = 42
      · have e42 : s[i] = 42 := UInt8.toNat_inj.1 h42
        rw [e42] at hd
        have Hd := Lib.hid hd
        clear hd hn e42
        go_enter Tryz.func50, Tryz.ntmps50
        go_upto_region 1 with fail
        go_quiet (fail)
        go_upto_region 3 with fail
        go_quiet (fail)
        go_wp2_with fail
        refine bodyPost_ret (results_tmp2 rfl _ _ _) rfl ?_
        refine ⟨0, 200, i + 1, by rw [Hd.out]; rfl, by omega, by omega, rfl, ?_, ?_⟩
        · refine RRd.next (i := i) (RRd.still H.out ?_) _ (by omega); exact (Frm.refl _ _).drewN _
        · refine frm_at (frm_no ?_); exact (Frm.refl _ _).drewN _
      · have h123 : ¬ s[i].toNat = 123 := fun h => (by have e : s[i] = 123 := UInt8.toNat_inj.1 h; rw [e] at hd; exact hn _ hd)
        have hc : cntR (s.data.toList.drop i) = .inr (1, 1, s.data.toList.drop i) := by
          refine cnt_plain (fun u e => ?_) (fun u e => ?_) hn
          · rw [hd] at e; injection e with e _; rw [e] at h43; exact h43 rfl
          · rw [hd] at e; injection e with e _; rw [e] at h42; exact h42 rfl
        have Hc := Lib.hid hc
        have k1 : (((s[i].toNat : Nat) : Int) == 43) = false := by rw [beq_eq_false_iff_ne]; omega
        have k2 : (((s[i].toNat : Nat) : Int) == 42) = false := by rw [beq_eq_false_iff_ne]; omega
        have k3 : (((s[i].toNat : Nat) : Int) == 123) = false := by rw [beq_eq_false_iff_ne]; omega
        clear hd hn hc
        go_enter Tryz.func50, Tryz.ntmps50
        go_upto_region 1 with fail
        go_quiet (fail)
        go_upto_region 3 with fail
        go_quiet (fail)
        go_wp2_with fail
        refine bodyPost_ret (results_tmp2 rfl _ _ _) rfl ?_
        exact ⟨1, 1, i, Hc.out, by omega, hi, rfl, H.out.still ((Frm.refl _ _).drewN _), frm_no ((Frm.refl _ _).drewN _)⟩
  · obtain rfl : i = s.size := by omega
    have hd : s.data.toList.drop s.size = [] := List.drop_of_length_le (by rw [size_list]; exact Nat.le_refl _)
    have Hd := Lib.hid hd
    clear hd hn
    go_enter Tryz.func50, Tryz.ntmps50
    go_upto_region 1 with fail
    go_quiet (fail)
    go_wp2_with fail
    refine bodyPost_ret (results_tmp2 rfl _ _ _) rfl ?_
    exact ⟨1, 1, s.size, by rw [Hd.out]; rfl, by omega, by omega, rfl, H.out.still ((Frm.refl _ _).drewN _), frm_no ((Frm.refl _ _).drewN _)⟩
/-- string([]byte{c}). -/
theorem conv_one (c : UInt8) (w : World) : (convert 55 9 (.slice (some ⟨w.heap.size, 0, none⟩) 1 1)).run Tryz.prog (w.alloc (.cells #[.int .u8 c.toNat] 5)) = .ok (.string ⟨#[c]⟩) (w.alloc (.cells #[.int .u8 c.toNat] 5)) := by
  have hb : Bts (w.alloc (.cells #[.int .u8 c.toNat] 5)) 5 (.slice (some ⟨w.heap.size, 0, none⟩) 1 1) [c] :=
    ⟨by simp, .inr ⟨w.heap.size, 1, _, rfl, Nat.zero_le _, heap_alloc_new w _, by simp, by unfold maxLen; omega, by simp, by simp [bv]⟩⟩
  exact run_bytes_string hb 55 9 Tryz.underlying55 Tryz.underlying5 Tryz.underlying9 (some ⟨w.heap.size, 0, none⟩) 1 1 0 (by simp) (fun _ => ⟨_, _, _, rfl, rfl⟩)
/-- What is read without braces and without two characters in a row. -/
inductive NParse : List Pc → List UInt8 → List Pc → Prop
  | nil (ps : List Pc) : NParse ps [] ps
  | run {ps rs : List Pc} {d : UInt8} {v2 u : List UInt8} {a b : Int} (hd : clsOf d ≠ 0) (hc : cntR v2 = .inr (a, b, u)) (hn : ∀ u, v2 ≠ 123 :: u) (h : NParse (ps ++ [⟨clsOf d, a, b, ⟨#[]⟩⟩]) u rs) : NParse ps (92 :: d :: v2) rs
  | chr {ps rs : List Pc} {c : UInt8} {u : List UInt8} (h92 : c ≠ 92) (hs : spc c = false) (hc : clsB c ≠ 0) (hl : ps.length = 0 ∨ ∃ h : 0 < ps.length, (ps[ps.length - 1]'(by omega)).cls ≠ 0) (h : NParse (ps ++ [⟨0, 0, 0, ⟨#[c]⟩⟩]) u rs) : NParse ps (c :: u) rs
structure RPW (w wr : World) (s : ByteArray) (i : Nat) (v : Value) (ps : List Pc) : Prop where
  rd : RRd wr w.heap.size s i
  pcs : Pcs wr v ps
  new : ∀ k, Blk v k → w.heap.size < k
  frm : Frm (fun _ => False) w wr
  at' : i ≤ s.size
  len : ps.length ≤ i
set_option maxRecDepth 100000 in
set_option maxHeartbeats 8000000 in
theorem rparse_any {s : ByteArray} {rs : List Pc} (hs : s.size ≤ 60) (h : NParse [] s.data.toList rs) (w : World) :
    Calls Tryz.prog 19 #[.string s] w fun e w' => ∃ v, e = .returned (.tuple #[v, .int .i64 0, .int .i64 0]) ∧ Pcs w' v rs ∧ Frm (fun _ => False) w w' := by
  obtain ⟨i0, hi0, hz0, hz1, hz2⟩ := pc_info
  have H := Lib.hid h
  clear h
  have hst : RPW w (w.alloc (.cells #[.string s, .int .i64 0, .int .i64 0, .int .i64 0] 59)) s 0 (.slice none 0 0) [] :=
    ⟨heap_alloc_new w _, Pcs.nil _, fun k hk => absurd hk Blk.nil, (Frm.refl _ _).alloc _, Nat.zero_le _, Nat.zero_le _⟩
  have Hst := Lib.hid hst
  clear hst
  go_enter Tryz.func19, Tryz.ntmps19
  go_wp2_with fail
  go_loopw [6] (fun v wr => ∃ (i : Nat) (ps : List Pc), RPW w wr s i v ps ∧ Hid (NParse ps (s.data.toList.drop i) rs)) (fun _ wr => s.size - ratW w.heap.size wr)
  case atStart => exact ⟨0, _, Hst.out, H⟩
  case round =>
    obtain ⟨i, ps, hW, hp⟩ := hrel
    clear Hst H
    have hi := hW.at'
    obtain ⟨c0, c1, c2, c3, z1⟩ := rrd_cells hW.rd
    obtain ⟨ao, cap, rfl⟩ := hW.pcs.form
    obtain ⟨t, ht⟩ : ∃ t, t = s.data.toList.drop i := ⟨_, rfl⟩
    have hp := hp.out
    rw [← ht] at hp
    have HW := Lib.hid hW
    clear hW
    cases hp with
    | nil =>
      have hend : i = s.size := by
        have := congrArg List.length ht
        rw [List.length_drop, size_list, List.length_nil] at this
        omega
      subst hend
      clear ht c2
      go_wp2_with fail
      refine bodyPost_ret (v := .tuple #[.slice ao rs.length cap, .int .i64 0, .int .i64 0]) (by simp [results, Tryz.results19, go_sem]) rfl ?_
      exact ⟨_, rfl, HW.out.pcs, HW.out.frm⟩
    | run hd hc hn h =>
      rename_i d v2 u a b
      have hl2 : i + 1 < s.size := by
        have := congrArg List.length ht
        rw [List.length_drop, size_list, List.length_cons, List.length_cons] at this
        omega
      rw [pk_drop (by omega : i < s.size), pk_drop hl2] at ht
      injection ht with e0 ht
      injection ht with e1 ht
      subst ht
      have b0 : s[i].toNat = 92 := by rw [← e0]; rfl
      have b1 : s[i + 1].toNat = d.toNat := by rw [← e1]
      have t0 : ((clsOf d : Int) == 0) = false := by rw [beq_eq_false_iff_ne]; omega
      have t1 : (0 : Int) < (clsOf d : Int) := by omega
      have t2 : ((i : Int) + 1 == (s.size : Int)) = false := by rw [beq_eq_false_iff_ne]; omega
      have hlt : (i : Int) < (s.size : Int) := by omega
      have hr2 := (HW.out.rd.next (n := (i : Int) + 1) (i + 1) (by omega)).next (n := (i : Int) + 1 + 1) (i + 1 + 1) (by omega)
      have Hr2 := Lib.hid hr2
      have Hc := Lib.hid hc
      have Hn := Lib.hid hn
      have Hh := Lib.hid h
      have Hcl := Lib.hid (rcls_any d)
      clear hr2 hc hn h e0 e1 hd
      go_wp2_with fail
      refine (Hcl.out _).mono ?_
      rintro e w9 ⟨rfl, rfl⟩
      go_wp2_with fail
      refine (Hcl.out _).mono ?_
      rintro e w9 ⟨rfl, rfl⟩
      go_wp2_with fail
      refine (rcount_any (x := w.heap.size) (i := i + 1 + 1) Hr2.out (by omega) (by omega) Hn.out).mono ?_
      rintro e w7 ⟨a', b', j, hcj, hij, hjs, rfl, r7, f7⟩
      have hc := Hc.out
      rw [hcj] at hc
      injection hc with hc
      injection hc with hc1 hc
      injection hc with hc2 hc3
      subst hc1
      subst hc2
      subst hc3
      have f9 : Frm (fun k => k = w.heap.size) wr w7 := (frm_at (frm_at (Frm.refl _ _))).trans f7
      have hp7 : Pcs w7 (.slice ao ps.length cap) ps := HW.out.pcs.frm f9 (fun k hk e => by have := HW.out.new k hk; omega)
      have hfw : Frm (fun _ => False) w w7 := HW.out.frm.trans' f9 (fun k hk => .inr (by omega))
      have hbA : (w7.alloc (.cells #[.int .i64 (clsOf d), .int .i64 a', .int .i64 b', .string ⟨#[]⟩] 66)).ownsRow 0 66 4 (.slice ao ps.length cap) ps.length (ps.flatMap pcC) := (hp7.still ((Frm.refl _ _).alloc _))
      have hx7 : w.heap.size < w7.heap.size := (Array.getElem?_eq_some_iff.1 r7).1
      have hlen := HW.out.len
      have R7 := Lib.hid r7
      have Hfw := Lib.hid hfw
      clear hcj r7 f7 f9 hp7 hfw c0 c1 c2 c3 z1 Hc Hr2 Hn
      go_wp2_with (at_builtin; refine wpList_append_one rfl _ _ 40 rfl 66 i0 (.agg #[.int .i64 0, .int .i64 0, .int .i64 0, .string ⟨#[]⟩]) 4 40 Tryz.underlying40 hi0 hz0 hz1 hz2 rfl (by decide) _ _ _ rfl hbA ⟨w7.heap.size, 0, none⟩ 1 [.int .i64 (clsOf d), .int .i64 a', .int .i64 b', .string ⟨#[]⟩] rfl rfl (new_cells w7 #[.int .i64 (clsOf d), .int .i64 a', .int .i64 b', .string ⟨#[]⟩] 66 w7.heap.size rfl) (by intro u hu; simp at hu; rcases hu with rfl | rfl | rfl | rfl <;> rfl) (by omega) (by unfold maxLen; omega) ?_)
      intro g cap2 w8 hown hfrm hgg
      have hP8 : Pcs w8 (.slice (some ⟨g, 0, none⟩) (ps.length + 1) cap2) (ps ++ [⟨clsOf d, a', b', ⟨#[]⟩⟩]) := Pcs.grow rfl hown
      have hr8 : RRd w8 w.heap.size s j := hfrm.heap (((Frm.refl (fun _ => False) w7).alloc _).heap R7.out (fun h => h)) (fun hk => by have := HW.out.new _ hk; omega)
      have hW8 : RPW w w8 s j (.slice (some ⟨g, 0, none⟩) (ps.length + 1) cap2) (ps ++ [⟨clsOf d, a', b', ⟨#[]⟩⟩]) := by
        refine ⟨hr8, hP8, fun k hk => ?_, ?_, hjs, by rw [List.length_append]; simp; omega⟩
        · obtain rfl := Blk.some.1 hk
          rcases hgg with e | e
          · exact HW.out.new _ e
          · try rw [World.size_alloc] at e
            omega
        · exact (Hfw.out.alloc _).trans' hfrm (fun k hk => .inr (by have := HW.out.new _ hk; omega))
      have Hr8 := Lib.hid hr8
      have H8 := Lib.hid hW8
      clear hown hfrm hgg hP8 hr8 hW8 hbA
      go_wp2_with fail
      go_roundw
      case rel => exact ⟨j, _, H8.out, Hh⟩
      case measure => exact rat_lt HW.out.rd Hr8.out (by omega) hjs
    | chr h92 hsp hcl hl h =>
      rename_i c u
      have hl2 : i < s.size := by
        have := congrArg List.length ht
        rw [List.length_drop, size_list, List.length_cons] at this
        omega
      rw [pk_drop hl2] at ht
      injection ht with e0 ht
      subst ht
      have b0 : s[i].toNat = c.toNat := by rw [← e0]
      have n92 : ¬ c.toNat = 92 := fun h => h92 (UInt8.toNat_inj.1 h)
      have t0 : (((c.toNat : Nat) : Int) == 92) = false := by rw [beq_eq_false_iff_ne]; omega
      have t1 : ((clsB c : Int) == 0) = false := by rw [beq_eq_false_iff_ne]; clear hl; omega
      have hlt : (i : Int) < (s.size : Int) := by omega
      have hr2 := HW.out.rd.next (n := (i : Int) + 1) (i + 1) (by omega)
      have Hsp := Lib.hid (rspecial_any c)
      rw [hsp] at Hsp
      have Hcl := Lib.hid (rclass_any c)
      have Hh := Lib.hid h
      clear h e0 h92 n92 hsp hcl
      go_wp2_with fail
      refine (Hsp.out _).mono ?_
      rintro e w9 ⟨rfl, rfl⟩
      go_wp2_with fail
      refine (Hcl.out _).mono ?_
      rintro e w9 ⟨rfl, rfl⟩
      have hp7 := HW.out.pcs.frm (frm_at (v := .int .i64 ((i : Int) + 1)) (j := 1) (Frm.refl (fun k => k = w.heap.size) wr)) (fun k hk e => by have := HW.out.new k hk; omega)
      have hfw := HW.out.frm.trans' (frm_at (v := .int .i64 ((i : Int) + 1)) (j := 1) (Frm.refl (fun k => k = w.heap.size) wr)) (fun k hk => .inr (by omega))
      have Hrd := Lib.hid HW.out.rd
      have hlen := HW.out.len
      have Hnew := Lib.hid HW.out.new
      go_upto_region 20 with fail
      obtain ⟨W1, hW1⟩ : ∃ W, W = wr.setCell ⟨w.heap.size, 1, none⟩ (.int .i64 ((i : Int) + 1)) := ⟨_, rfl⟩
      rw [← hW1] at hr2 hp7 hfw ⊢
      clear hW1 HW
      have R1 := Lib.hid hr2
      have Hf1 := Lib.hid hfw
      have hx1 : w.heap.size < W1.heap.size := (Array.getElem?_eq_some_iff.1 hr2).1
      have hcv := conv_one c W1
      have hbA : ((W1.alloc (.cells #[.int .u8 c.toNat] 5)).alloc (.cells #[.int .i64 0, .int .i64 0, .int .i64 0, .string ⟨#[c]⟩] 66)).ownsRow 0 66 4 (.slice ao ps.length cap) ps.length (ps.flatMap pcC) := hp7.still (((Frm.refl _ _).alloc _).alloc _)
      clear hr2 hfw c0 c1 c2 c3 z1
      rcases hl with h0 | ⟨hpos, hcc⟩
      · generalize hm : ps.length = m at *
        have HL := Lib.hid hm
        have hno : ¬ ((0 : Int) < (m : Int)) := by omega
        clear hm h0 hp7
        go_wp2_with (at_builtin; refine wpList_append_one rfl _ _ 40 rfl 66 i0 (.agg #[.int .i64 0, .int .i64 0, .int .i64 0, .string ⟨#[]⟩]) 4 40 Tryz.underlying40 hi0 hz0 hz1 hz2 rfl (by decide) _ _ _ rfl hbA ⟨W1.heap.size + 1, 0, none⟩ 1 [.int .i64 0, .int .i64 0, .int .i64 0, .string ⟨#[c]⟩] rfl rfl (new_cells (W1.alloc (.cells #[.int .u8 c.toNat] 5)) #[.int .i64 0, .int .i64 0, .int .i64 0, .string ⟨#[c]⟩] 66 (W1.heap.size + 1) (World.size_alloc _ _).symm) (by intro u hu; simp at hu; rcases hu with rfl | rfl <;> rfl) (by omega) (by unfold maxLen; omega) ?_)
        intro g cap2 w8 hown hfrm hgg
        have hP8 : Pcs w8 (.slice (some ⟨g, 0, none⟩) (m + 1) cap2) (ps ++ [⟨0, 0, 0, ⟨#[c]⟩⟩]) := Pcs.grow (by rw [HL.out]) hown
        have hr8 : RRd w8 w.heap.size s (i + 1) := hfrm.heap ((((Frm.refl (fun _ => False) W1).alloc _).alloc _).heap R1.out (fun h => h)) (fun hk => by have := Hnew.out _ hk; omega)
        have hW8 : RPW w w8 s (i + 1) (.slice (some ⟨g, 0, none⟩) (m + 1) cap2) (ps ++ [⟨0, 0, 0, ⟨#[c]⟩⟩]) := by
          refine ⟨hr8, hP8, fun k hk => ?_, ?_, hl2, by rw [List.length_append]; have := HL.out; simp; omega⟩
          · obtain rfl := Blk.some.1 hk
            rcases hgg with e | e
            · exact Hnew.out _ e
            · try rw [World.size_alloc, World.size_alloc] at e
              omega
          · exact ((Hf1.out.alloc _).alloc _).trans' hfrm (fun k hk => .inr (by have := Hnew.out _ hk; omega))
        have Hr8 := Lib.hid hr8
        have H8 := Lib.hid hW8
        clear hown hfrm hgg hP8 hr8 hW8 hbA
        go_wp2_with fail
        go_roundw
        case rel => exact ⟨i + 1, _, H8.out, Hh⟩
        case measure => exact rat_lt Hrd.out Hr8.out (by omega) hl2
      · obtain ⟨g0, hao, ⟨d0, -, -, -⟩, hg0⟩ := hp7.at' (ps.length - 1) (by omega)
        subst hao
        obtain ⟨n, hn⟩ : ∃ n, ps.length = n + 1 := ⟨ps.length - 1, by omega⟩
        have hcl2 : (ps[ps.length - 1].cls == 0) = false := by rw [beq_eq_false_iff_ne]; exact hcc
        clear hcc
        generalize ps[ps.length - 1].cls = k at *
        generalize hL : ps.length = L at *
        subst hn
        have HL := Lib.hid hL
        have hyes : (0 : Int) < ((n + 1 : Nat) : Int) := by omega
        clear hL hpos hp7
        simp only [Nat.add_sub_cancel] at d0
        go_wp2_with (at_builtin; refine wpList_append_one rfl _ _ 40 rfl 66 i0 (.agg #[.int .i64 0, .int .i64 0, .int .i64 0, .string ⟨#[]⟩]) 4 40 Tryz.underlying40 hi0 hz0 hz1 hz2 rfl (by decide) _ _ _ rfl hbA ⟨W1.heap.size + 1, 0, none⟩ 1 [.int .i64 0, .int .i64 0, .int .i64 0, .string ⟨#[c]⟩] rfl rfl (new_cells (W1.alloc (.cells #[.int .u8 c.toNat] 5)) #[.int .i64 0, .int .i64 0, .int .i64 0, .string ⟨#[c]⟩] 66 (W1.heap.size + 1) (World.size_alloc _ _).symm) (by intro u hu; simp at hu; rcases hu with rfl | rfl <;> rfl) (by omega) (by unfold maxLen; omega) ?_)
        intro g cap2 w8 hown hfrm hgg
        have hP8 : Pcs w8 (.slice (some ⟨g, 0, none⟩) ((n + 1) + 1) cap2) (ps ++ [⟨0, 0, 0, ⟨#[c]⟩⟩]) := Pcs.grow (by rw [HL.out]) hown
        have hr8 : RRd w8 w.heap.size s (i + 1) := hfrm.heap ((((Frm.refl (fun _ => False) W1).alloc _).alloc _).heap R1.out (fun h => h)) (fun hk => by have := Hnew.out _ hk; omega)
        have hW8 : RPW w w8 s (i + 1) (.slice (some ⟨g, 0, none⟩) ((n + 1) + 1) cap2) (ps ++ [⟨0, 0, 0, ⟨#[c]⟩⟩]) := by
          refine ⟨hr8, hP8, fun k hk => ?_, ?_, hl2, by rw [List.length_append]; have := HL.out; simp; omega⟩
          · obtain rfl := Blk.some.1 hk
            rcases hgg with e | e
            · exact Hnew.out _ e
            · try rw [World.size_alloc, World.size_alloc] at e
              omega
          · exact ((Hf1.out.alloc _).alloc _).trans' hfrm (fun k hk => .inr (by have := Hnew.out _ hk; omega))
        have Hr8 := Lib.hid hr8
        have H8 := Lib.hid hW8
        clear hown hfrm hgg hP8 hr8 hW8 hbA
        go_wp2_with fail
        go_roundw
        case rel => exact ⟨i + 1, _, H8.out, Hh⟩
        case measure => exact rat_lt Hrd.out Hr8.out (by omega) hl2
end Go.Proofs.YtgnjakaamgeibaaGreatDoor
