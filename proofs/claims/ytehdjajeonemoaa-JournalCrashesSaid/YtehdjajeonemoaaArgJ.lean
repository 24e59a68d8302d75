/-
  The records that a law's argument gives. Conditions: none.
-/
import Derived.Test.YtehdjajeonemoaaJOpens
namespace Go.Proofs.Ytehdjajeonemoaa
open Go.RowKit

/-- The first records of a list, each at most 200 bytes. -/
def recL (l : List ByteArray) (i : Nat) : List (List UInt8) := (l.take i).map fun s => s.data.toList.take 200
theorem recL_length (l : List ByteArray) (i : Nat) (h : i ≤ l.length) : (recL l i).length = i := by simp [recL]; omega
theorem recL_succ (l : List ByteArray) (i : Nat) (h : i < l.length) : recL l (i + 1) = recL l i ++ [l[i].data.toList.take 200] := by
  unfold recL
  rw [List.take_succ_eq_append_getElem h, List.map_append]
  rfl
theorem sum_le_mul (n : Nat) : ∀ (M : List (List UInt8)), (∀ r ∈ M, r.length ≤ n) → sumL M ≤ n * M.length ∧ cntL M ≤ (n + 16) * M.length
  | [], _ => ⟨Nat.le_refl _, Nat.le_refl _⟩
  | r :: M, h => by
    obtain ⟨h1, h2⟩ := sum_le_mul n M (fun x hx => h x (by simp [hx]))
    have hr := h r (by simp)
    have e1 : sumL (r :: M) = r.length + sumL M := by simp [sumL]
    have e2 : cntL (r :: M) = r.length + 16 + cntL M := by simp [cntL]
    rw [e1, e2, List.length_cons, Nat.mul_add, Nat.mul_add]
    omega
theorem recL_small (l : List ByteArray) (i : Nat) (h : i ≤ l.length) (hi : i ≤ 20) : sumL (recL l i) ≤ 4000 ∧ cntL (recL l i) ≤ 4320 := by
  have h1 := sum_le_mul 200 (recL l i) (fun r hr => by
    obtain ⟨s, -, rfl⟩ := List.mem_map.1 hr
    simp; omega)
  rw [recL_length l i h] at h1
  omega
theorem recL_fits (l : List ByteArray) (i : Nat) (h : i ≤ l.length) (hi : i ≤ 20) (s : ByteArray) (hs : s.size ≤ 200) : (Jn.of (recL l i)).fits s.size = true := by
  have h1 := (recL_small l i h hi).1
  show decide (sumL (recL l i) + s.size + 16 * ((recL l i).length + 1) + 256 ≤ 16777216) = true
  rw [decide_eq_true_iff, recL_length l i h]
  omega
/-- The strings of an argument, in memory. -/
structure ArgStrs (w : World) (ao : Option Addr) (l : List ByteArray) : Prop where
  at' : ∀ i (h : i < l.length), ∃ b o, ao = some ⟨b, o, none⟩ ∧ w.cell? ⟨b, o + i, none⟩ = some (.string l[i]) ∧ l[i].size ≤ 9223372036854775807
theorem ArgStrs.frm {w w' : World} {ao : Option Addr} {l : List ByteArray} (h : ArgStrs w ao l) (hf : Frm (fun _ => False) w w') : ArgStrs w' ao l := by
  refine ⟨fun i hi => ?_⟩
  obtain ⟨b, o, h0, h1, h2⟩ := h.at' i hi
  exact ⟨b, o, h0, hf.cell h1 (fun h => h), h2⟩

theorem ints_pair {w : World} {b : Nat} {x y : Int} (h : w.heap[b]? = some (.cells #[.int .i64 x, .int .i64 y] 3 (0, 0))) (hx : -9223372036854775808 ≤ x ∧ x ≤ 9223372036854775807) (hy : -9223372036854775808 ≤ y ∧ y ≤ 9223372036854775807) : IntsAt w (some ⟨b, 0, none⟩) [x, y] := by
  intro i hi
  refine ⟨b, 0, rfl, ?_⟩
  rw [cell_of_row w b (0 + i) _ _ _ h, Nat.zero_add]
  match i, hi with
  | 0, _ => exact ⟨rfl, hx⟩
  | 1, _ => exact ⟨rfl, hy⟩
end Go.Proofs.Ytehdjajeonemoaa
