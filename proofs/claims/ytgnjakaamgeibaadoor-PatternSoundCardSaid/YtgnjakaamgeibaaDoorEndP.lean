/-
  The ends of a piece's parts, in the order in which they are found. Plain laws. Conditions: as each says.
-/
import Derived.Test.YtgnjakaamgeibaaDoorOps
namespace Go.Proofs.YtgnjakaamgeibaaDoor

/-- The ends before a place. -/
def preE (e : Pc) (s : List UInt8) (i to : Nat) : List Nat := (List.range to).filter fun j => decide (i ≤ j) && fits e (seg s i j)
theorem pre_split (e : Pc) (s : List UInt8) (i a b : Nat) : preE e s i (a + b) = preE e s i a ++ ((List.range b).map (a + ·)).filter fun j => decide (i ≤ j) && fits e (seg s i j) := by
  unfold preE
  rw [List.range_add, List.filter_append]
theorem pre_start (e : Pc) (s : List UInt8) (i : Nat) : preE e s i i = [] := by
  unfold preE
  rw [List.filter_eq_nil_iff]
  intro j hj
  have := List.mem_range.1 hj
  simp only [Bool.and_eq_true, decide_eq_true_eq]
  omega
theorem pre_hit {e : Pc} {s : List UInt8} {i t : Nat} (hi : i ≤ t) (h : fits e (seg s i t) = true) : preE e s i (t + 1) = preE e s i t ++ [t] := by
  rw [pre_split]
  simp [hi, h]
theorem pre_miss {e : Pc} {s : List UInt8} {i t : Nat} (h : fits e (seg s i t) = false) : preE e s i (t + 1) = preE e s i t := by
  rw [pre_split]
  simp [h]
theorem pre_end (e : Pc) (s : List UInt8) (i : Nat) : endsL e s i = preE e s i (s.length + 1) := rfl
theorem pre_all {e : Pc} {s : List UInt8} {i t : Nat} (ht : t ≤ s.length + 1) (h : ∀ j, j ∈ endsL e s i → j < t) : preE e s i t = endsL e s i := by
  obtain ⟨b, hb⟩ : ∃ b, s.length + 1 = t + b := ⟨s.length + 1 - t, by omega⟩
  have h' := h
  rw [pre_end, hb, pre_split] at h' ⊢
  have : ((List.range b).map (t + ·)).filter (fun j => decide (i ≤ j) && fits e (seg s i j)) = [] := by
    rw [List.eq_nil_iff_forall_not_mem]
    intro j hj
    have h1 := h' j (List.mem_append_right _ hj)
    obtain ⟨k, -, hk⟩ := List.mem_map.1 (List.mem_filter.1 hj).1
    omega
  rw [this, List.append_nil]
theorem pre_pre (e : Pc) (s : List UInt8) (i : Nat) {t : Nat} (ht : t ≤ s.length + 1) : preE e s i t <+: endsL e s i := by
  obtain ⟨b, hb⟩ : ∃ b, s.length + 1 = t + b := ⟨s.length + 1 - t, by omega⟩
  rw [pre_end, hb, pre_split]
  exact List.prefix_append _ _
theorem seg_at {s : List UInt8} {i j a : Nat} (h : i + a < j) : (seg s i j)[a]? = s[i + a]? := by
  unfold seg
  rw [List.getElem?_drop, List.getElem?_take, if_pos h]
theorem cons_at {s : List UInt8} {i j : Nat} {k : Int} (h : consB (seg s i j) k = true) (m : Nat) (hm : m < s.length) (hi : i ≤ m) (hmj : m < j) : insB (clsB s[m]) k = true := by
  unfold consB at h
  rw [List.all_eq_true] at h
  have e := seg_at (s := s) (i := i) (j := j) (a := m - i) (by omega)
  rw [show i + (m - i) = m by omega, List.getElem?_eq_getElem hm] at e
  exact h _ (List.mem_of_getElem? e)
theorem seg_succ {s : List UInt8} {i j : Nat} (hi : i ≤ j) (hj : j < s.length) : seg s i (j + 1) = seg s i j ++ [s[j]] := by
  unfold seg
  rw [List.take_succ_eq_append_getElem hj, List.drop_append_of_le_length (by rw [List.length_take]; omega)]
theorem cons_succ {s : List UInt8} {i j : Nat} {k : Int} (hi : i ≤ j) (hj : j < s.length) : consB (seg s i (j + 1)) k = (consB (seg s i j) k && insB (clsB s[j]) k) := by
  rw [seg_succ hi hj]
  simp [consB]
/-- Where a run may end. -/
theorem run_fits {e : Pc} {s : List UInt8} {i t : Nat} (hc : e.cls ≠ 0) (hi : i ≤ t) (ht : t ≤ s.length) (hh : (t : Int) - i ≤ e.hi) (hk : consB (seg s i t) e.cls = true) : fits e (seg s i t) = decide (e.lo ≤ (t : Int) - i) := by
  unfold fits
  rw [if_neg hc, hk, seg_len ht]
  have : ((t - i : Nat) : Int) = (t : Int) - i := by omega
  rw [this, decide_eq_true hh, Bool.and_true, Bool.and_true]
theorem run_far {e : Pc} {s : List UInt8} {i t : Nat} (hc : e.cls ≠ 0) (h : e.hi < (t : Int) - i) : ∀ j, j ∈ endsL e s i → j < t := by
  intro j hj
  obtain ⟨h1, h2, h3⟩ := mem_ends.1 hj
  unfold fits at h3
  rw [if_neg hc, seg_len h1] at h3
  simp only [Bool.and_eq_true, decide_eq_true_eq] at h3
  omega
theorem run_end {e : Pc} {s : List UInt8} {i : Nat} : ∀ j, j ∈ endsL e s i → j < s.length + 1 := by
  intro j hj
  have := (mem_ends.1 hj).1
  omega
theorem run_other {e : Pc} {s : List UInt8} {i t : Nat} (hc : e.cls ≠ 0) (hi : i ≤ t) (ht : t < s.length) (h : insB (clsB s[t]) e.cls = false) : ∀ j, j ∈ endsL e s i → j < t + 1 := by
  intro j hj
  obtain ⟨h1, h2, h3⟩ := mem_ends.1 hj
  refine Classical.byContradiction fun hn => ?_
  unfold fits at h3
  rw [if_neg hc] at h3
  simp only [Bool.and_eq_true] at h3
  rw [cons_at h3.2 t ht hi (by omega)] at h
  cases h
theorem litE_fits {e : Pc} {s : List UInt8} {i t : Nat} (hc : e.cls = 0) : fits e (seg s i t) = true ↔ seg s i t = e.t := by
  unfold fits
  rw [if_pos hc]
  simp
theorem ends_lit {e : Pc} {s : List UInt8} {i : Nat} (hc : e.cls = 0) (hi : i ≤ s.length) : endsL e s i = if e.t <+: s.drop i then [i + e.t.length] else [] := by
  have key : ∀ j, j ∈ endsL e s i → j = i + e.t.length ∧ e.t <+: s.drop i := by
    intro j hj
    obtain ⟨h1, h2, h3⟩ := mem_ends.1 hj
    rw [litE_fits hc] at h3
    have hl := seg_len (s := s) (i := i) h1
    rw [h3] at hl
    refine ⟨by omega, ?_⟩
    rw [← h3]
    unfold seg
    rw [List.drop_take]
    exact List.take_prefix _ _
  by_cases h : e.t <+: s.drop i
  · rw [if_pos h]
    have hl := h.length_le
    rw [List.length_drop] at hl
    have hs : seg s i (i + e.t.length) = e.t := by
      unfold seg
      rw [List.drop_take, show i + e.t.length - i = e.t.length by omega]
      exact (List.prefix_iff_eq_take.1 h).symm
    have h0 : preE e s i (i + e.t.length) = [] := by
      unfold preE
      rw [List.filter_eq_nil_iff]
      intro j hj hp
      have hjr := List.mem_range.1 hj
      simp only [Bool.and_eq_true, decide_eq_true_eq] at hp
      have := (key j (mem_ends.2 ⟨by omega, hp.1, hp.2⟩)).1
      omega
    rw [← pre_all (t := i + e.t.length + 1) (by omega) (fun j hj => by have := (key j hj).1; omega), pre_hit (by omega) ((litE_fits hc).2 hs), h0]
    rfl
  · rw [if_neg h, List.eq_nil_iff_forall_not_mem]
    intro j hj
    exact h (key j hj).2
end Go.Proofs.YtgnjakaamgeibaaDoor
