/-
  Numbers and dates: what the code of both sides does. Conditions: the package variables read as the text lays them.
-/
import Derived.Test.YtmpfgdpicbpedaaDoorOwn
import Derived.Test.YtmpfgdpicbpedaaDoorCal
import Derived.Test.YtmpfgdpicbpedaaDoorShelf
import Derived.IntWalk
import Derived.LoopTactic
namespace Go.Proofs.YtmpfgdpicbpedaaDoor
open Go.RowKit

def lenL : List Int := [31, 28, 31, 30, 31, 30, 31, 31, 30, 31, 30, 31]
/-- What the package variables hold. -/
structure Tabs (w : World) : Prop where
  len : ∀ i, i < 12 → w.cell? ⟨0, i, none⟩ = some (.int .i64 (lenL.getD i 0))
  pow : Lib.TabIs Tryd.prog w "internal/strconv.uint64pow10" .u64 Lib.pow10Tab

theorem ret_int {k : IntKind} {a b : Int} (h : a = b) : Ending.returned (.int k a) = .returned (.int k b) := by rw [h]

theorem leap_any (y : Int) (h1 : 0 ≤ y) (h2 : y ≤ 100000) (w : World) : Calls Tryd.prog 54 #[.int .i64 y] w fun e w' => e = .returned (.bool (leapB y)) ∧ w = w' := by
  go_enter Tryd.func54, Tryd.ntmps54
  go_wp2
  all_goals go_ret
  all_goals refine ⟨ret_bool ?_, rfl⟩
  all_goals
    rw [Bool.eq_iff_iff]
    simp [leapB]
    try omega
theorem rleap_any (y : Int) (h1 : 0 ≤ y) (h2 : y ≤ 100000) (w : World) : Calls Tryd.prog 53 #[.int .i64 y] w fun e w' => e = .returned (.bool (leapB y)) ∧ w = w' := by
  go_enter Tryd.func53, Tryd.ntmps53
  go_wp2
  all_goals go_ret
  all_goals refine ⟨ret_bool ?_, rfl⟩
  all_goals
    rw [Bool.eq_iff_iff]
    simp [leapB]
    try omega
theorem before_any (y : Int) (h1 : 1 ≤ y) (h2 : y ≤ 100000) (w : World) : Calls Tryd.prog 41 #[.int .i64 y] w fun e w' => e = .returned (.int .i64 (bef y)) ∧ w = w' := by
  go_enter Tryd.func41, Tryd.ntmps41
  go_wp2
  go_ret
  exact ⟨rfl, rfl⟩
theorem first_any (y : Int) (h1 : 1 ≤ y) (h2 : y ≤ 100000) (w : World) : Calls Tryd.prog 37 #[.int .i64 y] w fun e w' => e = .returned (.int .i64 (bef y)) ∧ w = w' := by
  go_enter Tryd.func37, Tryd.ntmps37
  go_wp2
  go_ret
  exact ⟨rfl, rfl⟩

theorem dim_two (y : Int) : dim y 2 = if leapB y = true then 29 else 28 := by
  unfold dim lp
  rw [if_pos rfl]
  split <;> rfl
theorem days_any (y m : Int) (h1 : 0 ≤ y) (h2 : y ≤ 100000) (h3 : 1 ≤ m) (h4 : m ≤ 12) (w : World) (hT : Tabs w) : Calls Tryd.prog 39 #[.int .i64 y, .int .i64 m] w fun e w' => e = .returned (.int .i64 (dim y m)) ∧ w = w' := by
  by_cases hm : m = 2
  · subst hm
    rw [dim_two]
    have c1 : w.cell? ⟨0, 1, none⟩ = some (.int .i64 28) := hT.len 1 (by decide)
    have hl := leap_any y h1 h2 w
    cases hb : leapB y
    · rw [hb] at hl
      have Hl := Lib.hid hl
      clear hl hb hT
      go_enter Tryd.func39, Tryd.ntmps39
      go_wp2_with (go_at_call 54; refine Hl.out.mono ?_; rintro e w' ⟨rfl, rfl⟩)
      go_ret
      exact ⟨rfl, rfl⟩
    · rw [hb] at hl
      have Hl := Lib.hid hl
      clear hl hb hT
      go_enter Tryd.func39, Tryd.ntmps39
      go_wp2_with (go_at_call 54; refine Hl.out.mono ?_; rintro e w' ⟨rfl, rfl⟩)
      go_ret
      exact ⟨rfl, rfl⟩
  · have key : ∀ k : Nat, k < 12 → m = (k : Int) + 1 → w.cell? ⟨0, k, none⟩ = some (.int .i64 (dim y m)) := by
      intro k hk e
      rw [hT.len k hk]
      have hk1 : k ≠ 1 := fun e1 => hm (by subst e1; omega)
      rcases (show k = 0 ∨ k = 2 ∨ k = 3 ∨ k = 4 ∨ k = 5 ∨ k = 6 ∨ k = 7 ∨ k = 8 ∨ k = 9 ∨ k = 10 ∨ k = 11 by omega) with h | h | h | h | h | h | h | h | h | h | h <;> subst h <;> subst e <;> simp [dim, lenL]
    have hc := key (m.toNat - 1) (by omega) (by omega)
    have t1 : (m == 2) = false := by rw [beq_eq_false_iff_ne]; exact hm
    have b1 : 0 ≤ m - 1 := by omega
    have b2 : m - 1 < 12 := by omega
    generalize dim y m = r at hc
    clear key hm hT
    go_enter Tryd.func39, Tryd.ntmps39
    go_wp2
    go_ret
    exact ⟨rfl, rfl⟩
theorem rdays_any (y m : Int) (h1 : 0 ≤ y) (h2 : y ≤ 100000) (h3 : 1 ≤ m) (h4 : m ≤ 12) (w : World) : Calls Tryd.prog 38 #[.int .i64 y, .int .i64 m] w fun e w' => e = .returned (.int .i64 (dim y m)) ∧ w = w' := by
  have hl := rleap_any y h1 h2 w
  have hd := dim_two y
  rcases (show m = 1 ∨ m = 2 ∨ m = 3 ∨ m = 4 ∨ m = 5 ∨ m = 6 ∨ m = 7 ∨ m = 8 ∨ m = 9 ∨ m = 10 ∨ m = 11 ∨ m = 12 by omega) with h | h | h | h | h | h | h | h | h | h | h | h
  all_goals subst h
  all_goals try rw [hd]
  all_goals cases hb : leapB y
  all_goals rw [hb] at hl
  all_goals have Hl := Lib.hid hl
  all_goals clear hl hb hd
  all_goals
    go_enter Tryd.func38, Tryd.ntmps38
    go_wp2_with (go_at_call 53; refine Hl.out.mono ?_; rintro e w' ⟨rfl, rfl⟩)
    go_ret
    first | exact ⟨rfl, rfl⟩ | exact ⟨ret_int (by simp [dim]), rfl⟩

theorem number_any (y m d : Int) (h1 : 1 ≤ y) (h2 : y ≤ 9999) (h3 : 1 ≤ m) (h4 : m ≤ 12) (h5 : 1 ≤ d) (h6 : d ≤ 100) (w : World) (hT : Tabs w) : Calls Tryd.prog 35 #[.int .i64 y, .int .i64 m, .int .i64 d] w fun e w' => e = .returned (.int .i64 (num y m d)) ∧ w = w' := by
  have hb := bef_bd y h1 (by omega)
  go_enter Tryd.func35, Tryd.ntmps35
  go_wp2_with (go_at_call 41; refine (before_any y (by omega) (by omega) _).mono ?_; rintro e w' ⟨rfl, rfl⟩)
  go_loop [7, 8] (fun n k => ∃ i : Int, 1 ≤ i ∧ i ≤ m ∧ k = .int .i64 i ∧ n = .int .i64 (bef y + d - 1 + cum y i)) (fun _ k => (m - intOf k).toNat)
  case atStart => exact ⟨1, by omega, h3, rfl, by rw [cum_one]; simp⟩
  case round =>
    obtain ⟨i, i1, i2, rfl, rfl⟩ := hrel
    have hc := cum_bd y i i1 (by omega)
    by_cases hlt : i < m
    · have hs := cum_succ y i i1 (by omega)
      have hd := dim_bd y i
      have Hs := Lib.hid hs
      clear hs
      go_wp2_with (go_at_call 39; refine (days_any y i (by omega) (by omega) i1 (by omega) _ hT).mono ?_; rintro e w' ⟨rfl, rfl⟩)
      go_round
      case rel => exact ⟨i + 1, by omega, by omega, rfl, by rw [Hs.out]; go_num⟩
      case measure => simp [intOf]; omega
    · have hi : i = m := by omega
      subst hi
      go_wp2
      go_ret
      exact ⟨ret_int (by unfold num; omega), rfl⟩
end Go.Proofs.YtmpfgdpicbpedaaDoor
