/-
  What the reference computes for ends: plain laws. Conditions: as each says.
-/
import Derived.Test.YtgnjakaamgeibaaDoorMad
namespace Go.Proofs.YtgnjakaamgeibaaDoor

/-- What is reached by one more piece, from the first places. -/
def rstep (e : Pc) (s : List UInt8) (now : Nat → Bool) (k m : Nat) : Bool := (List.range k).any fun j => now j && (decide (j ≤ m) && fits e (seg s j m))
theorem rs_zero (e : Pc) (s : List UInt8) (now : Nat → Bool) (m : Nat) : rstep e s now 0 m = false := rfl
theorem rs_succ (e : Pc) (s : List UInt8) (now : Nat → Bool) (k m : Nat) : rstep e s now (k + 1) m = (rstep e s now k m || now k && (decide (k ≤ m) && fits e (seg s k m))) := by
  unfold rstep
  rw [List.range_succ, List.any_append]
  simp
theorem rs_no {e : Pc} {s : List UInt8} {now : Nat → Bool} {k : Nat} (h : now k = false) (m : Nat) : rstep e s now (k + 1) m = rstep e s now k m := by rw [rs_succ, h]; simp
theorem rs_full {p : List Pc} {e : Pc} {s : List UInt8} {i m : Nat} (hm : m ≤ s.length) : rstep e s (reachB p s i) (s.length + 1) m = reachB (p ++ [e]) s i m := by
  rw [Bool.eq_iff_iff, reach_snoc hm]
  unfold rstep
  rw [List.any_eq_true]
  constructor
  · rintro ⟨k, -, h⟩
    simp only [Bool.and_eq_true, decide_eq_true_eq] at h
    exact ⟨k, h.2.1, h.1, h.2.2⟩
  · rintro ⟨k, h1, h2, h3⟩
    exact ⟨k, List.mem_range.2 (by omega), by rw [h2, h3, decide_eq_true h1]; rfl⟩
/-- While a run goes on. -/
def rrun (e : Pc) (s : List UInt8) (now : Nat → Bool) (k n m : Nat) : Bool := rstep e s now k m || (decide (k ≤ m) && decide (m < k + n) && fits e (seg s k m))
theorem rr_zero (e : Pc) (s : List UInt8) (now : Nat → Bool) (k m : Nat) : rrun e s now k 0 m = rstep e s now k m := by
  unfold rrun
  have : (decide (k ≤ m) && decide (m < k + 0)) = false := by simp
  rw [this]
  simp
theorem rr_hit {e : Pc} {s : List UInt8} {now : Nat → Bool} {k n : Nat} (h : fits e (seg s k (k + n)) = true) (m : Nat) : rrun e s now k (n + 1) m = if m = k + n then true else rrun e s now k n m := by
  unfold rrun
  by_cases e1 : m = k + n
  · subst e1
    rw [if_pos rfl, h]
    simp
  · rw [if_neg e1]
    have : decide (m < k + (n + 1)) = decide (m < k + n) := by
      rw [Bool.eq_iff_iff, decide_eq_true_iff, decide_eq_true_iff]
      omega
    rw [this]
theorem rr_miss {e : Pc} {s : List UInt8} {now : Nat → Bool} {k n : Nat} (h : fits e (seg s k (k + n)) = false) (m : Nat) : rrun e s now k (n + 1) m = rrun e s now k n m := by
  unfold rrun
  by_cases e1 : m = k + n
  · subst e1
    rw [h]
    simp
  · have : decide (m < k + (n + 1)) = decide (m < k + n) := by
      rw [Bool.eq_iff_iff, decide_eq_true_iff, decide_eq_true_iff]
      omega
    rw [this]
theorem rr_done {e : Pc} {s : List UInt8} {now : Nat → Bool} {k n : Nat} (hn : now k = true) (h : ∀ j, j ∈ endsL e s k → j < k + n) {m : Nat} (hm : m ≤ s.length) : rrun e s now k n m = rstep e s now (k + 1) m := by
  rw [rs_succ, hn, Bool.true_and]
  unfold rrun
  by_cases hk : k ≤ m
  · by_cases hf : fits e (seg s k m) = true
    · rw [decide_eq_true (h m (mem_ends.2 ⟨hm, hk, hf⟩)), Bool.and_true]
    · rw [Bool.not_eq_true] at hf
      rw [hf]
      simp
  · rw [decide_eq_false hk]
    simp
theorem rs_lit {e : Pc} {s : List UInt8} {now : Nat → Bool} {k : Nat} (hc : e.cls = 0) (hn : now k = true) (hk : k ≤ s.length) {m : Nat} (hm : m ≤ s.length) : rstep e s now (k + 1) m = if e.t <+: s.drop k ∧ m = k + e.t.length then true else rstep e s now k m := by
  rw [rs_succ, hn, Bool.true_and]
  have he := ends_lit hc hk
  have key : (decide (k ≤ m) && fits e (seg s k m)) = true ↔ (e.t <+: s.drop k ∧ m = k + e.t.length) := by
    rw [Bool.and_eq_true, decide_eq_true_eq]
    have h1 : m ∈ endsL e s k ↔ k ≤ m ∧ fits e (seg s k m) = true := by
      rw [mem_ends]
      exact ⟨fun h => h.2, fun h => ⟨hm, h⟩⟩
    rw [← h1, he]
    split
    · rename_i hp
      rw [List.mem_singleton]
      exact ⟨fun h => ⟨hp, h⟩, fun h => h.2⟩
    · rename_i hp
      exact ⟨fun h => absurd h (List.not_mem_nil), fun h => absurd h.1 hp⟩
  by_cases h : e.t <+: s.drop k ∧ m = k + e.t.length
  · rw [if_pos h, key.2 h, Bool.or_true]
  · rw [if_neg h]
    have : (decide (k ≤ m) && fits e (seg s k m)) = false := by
      rw [Bool.eq_false_iff]
      exact fun hh => h (key.1 hh)
    rw [this, Bool.or_false]
/-- The greatest end by trying from above. -/
theorem g_above {p : List Pc} {s : List UInt8} {i k : Nat} (hk : k ≤ s.length) (hik : i < k) (h : reachB p s i k = true) (hn : ∀ j, k < j → j ≤ s.length → reachB p s i j = false) : gEnd p s i = (k : Int) := by
  have hr : ∀ j, i ≤ j → mtB p (seg s i j) = reachB p s i j := fun j hj => by unfold reachB; rw [decide_eq_true hj, Bool.true_and]
  refine (gEnd_of (p := p) (s := s) (i := i) (v := (k : Int)) ?_).symm
  refine .inr ⟨k, rfl, by omega, hk, by rw [hr k (by omega)]; exact h, fun j h1 h2 => by rw [hr j (by omega)]; exact hn j h1 h2⟩
theorem g_none {p : List Pc} {s : List UInt8} {i : Nat} (hn : ∀ j, i < j → j ≤ s.length → reachB p s i j = false) : gEnd p s i ≤ i := by
  rcases gEnd_isG p s i with ⟨h, -⟩ | ⟨j, h, h1, h2, h3, -⟩
  · omega
  · rw [h]
    have : ¬ i < j := by
      intro hij
      have := hn j hij h2
      unfold reachB at this
      rw [decide_eq_true h1, h3] at this
      cases this
    omega
end Go.Proofs.YtgnjakaamgeibaaDoor
