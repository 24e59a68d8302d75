/-
  Both sides answer alike: months, sums, weekdays, dates of numbers. Conditions: the package variables read as the text lays them.
-/
import Derived.Test.YtmpfgdpicbpedaaDoorSan
namespace Go.Proofs.YtmpfgdpicbpedaaDoor
open Go.RowKit Go.Shelf

theorem mon_shape (y m d k : Int) : ∃ x b, monR y m d k = .tuple #[.int .i64 x, .bool b] := by
  unfold monR
  split
  · exact ⟨_, _, rfl⟩
  · exact ⟨_, _, rfl⟩
theorem add_shape (n k : Int) : ∃ x b, addR n k = .tuple #[.int .i64 x, .bool b] := by
  unfold addR
  split
  · exact ⟨_, _, rfl⟩
  · exact ⟨_, _, rfl⟩
theorem wk_shape (n : Int) : ∃ x b, wkR n = .tuple #[.int .i64 x, .bool b] := by
  unfold wkR
  split
  · exact ⟨_, _, rfl⟩
  · exact ⟨_, _, rfl⟩
theorem num_shape (y m d : Int) : ∃ x b, numR y m d = .tuple #[.int .i64 x, .bool b] ∧ vldB y m d = b := by
  unfold numR
  cases h : vldB y m d
  · exact ⟨_, _, by rw [if_neg (by simp)], rfl⟩
  · exact ⟨_, _, by rw [if_pos rfl], rfl⟩

/-- Months of both sides. -/
theorem months_two (n k : Int) (w : World) (hT : Tabs w) (hk : -9223372036854775808 ≤ k ∧ k ≤ 9223372036854775807) : Calls Tryd.prog 19 #[.int .i64 n, .int .i64 k] w fun e w' => w = w' ∧ ∃ x b, e = .returned (.tuple #[.int .i64 x, .bool b]) ∧ ∀ w2, Calls Tryd.prog 20 #[.int .i64 n, .int .i64 k] w2 fun e2 w3 => e2 = e ∧ w2 = w3 := by
  refine (months_any n k w hT hk.1 hk.2).mono ?_
  rintro e w' ⟨h, hw⟩
  refine ⟨hw, ?_⟩
  rcases h with ⟨hno, rfl⟩ | ⟨y, m, d, hc, rfl⟩
  · refine ⟨_, _, rfl, fun w2 => (rmonths_any n k w2 hk.1 hk.2).mono ?_⟩
    rintro e2 w3 ⟨h2, hw2⟩
    refine ⟨?_, hw2⟩
    rcases h2 with ⟨-, rfl⟩ | ⟨y, m, d, hc, -⟩
    · rfl
    · rw [in_iff.2 hc.bd] at hno
      simp at hno
  · obtain ⟨x, b, hs⟩ := mon_shape y m d k
    rw [hs]
    refine ⟨x, b, rfl, fun w2 => (rmonths_any n k w2 hk.1 hk.2).mono ?_⟩
    rintro e2 w3 ⟨h2, hw2⟩
    refine ⟨?_, hw2⟩
    rcases h2 with ⟨hno, rfl⟩ | ⟨y', m', d', hc', rfl⟩
    · rw [in_iff.2 hc.bd] at hno
      simp at hno
    · obtain ⟨rfl, rfl, rfl⟩ := hc'.uniq hc
      rw [hs]

/-- The dates of a number, of both sides. -/
theorem civil_two (n : Int) (w : World) (hT : Tabs w) : Calls Tryd.prog 17 #[.int .i64 n] w fun e w' => w = w' ∧ ∃ y m d b, e = .returned (.tuple #[.int .i64 y, .int .i64 m, .int .i64 d, .bool b]) ∧ ∀ w2, Calls Tryd.prog 18 #[.int .i64 n] w2 fun e2 w3 => e2 = e ∧ w2 = w3 := by
  refine (civil_any n w hT).mono ?_
  rintro e w' ⟨h, hw⟩
  refine ⟨hw, ?_⟩
  rcases h with ⟨hno, rfl⟩ | ⟨y, m, d, hc, rfl⟩
  · refine ⟨_, _, _, _, rfl, fun w2 => (rcivil_any n w2).mono ?_⟩
    rintro e2 w3 ⟨h2, hw2⟩
    refine ⟨?_, hw2⟩
    rcases h2 with ⟨-, rfl⟩ | ⟨y, m, d, hc, -⟩
    · rfl
    · rw [in_iff.2 hc.bd] at hno
      simp at hno
  · refine ⟨_, _, _, _, rfl, fun w2 => (rcivil_any n w2).mono ?_⟩
    rintro e2 w3 ⟨h2, hw2⟩
    refine ⟨?_, hw2⟩
    rcases h2 with ⟨hno, rfl⟩ | ⟨y', m', d', hc', rfl⟩
    · rw [in_iff.2 hc.bd] at hno
      simp at hno
    · obtain ⟨rfl, rfl, rfl⟩ := hc'.uniq hc
      rfl
end Go.Proofs.YtmpfgdpicbpedaaDoor
