/-
  Read: the bytes that exist. Conditions: none beyond a disk in memory.
-/
import Derived.Test.YtehdjajeonemoaaWrite
namespace Go.Proofs.Ytehdjajeonemoaa
open Go.RowKit

def strV (l : List UInt8) : Value := .string ⟨l.toArray⟩

theorem read_nil (off n : Int) (w : World) : Calls Try.prog 35 #[.pointer none, .int .i64 off, .int .i64 n] w fun e w' => e = .returned (strV []) ∧ w = w' := by
  go_enter Try.func35, Try.ntmps35
  go_wp2
  go_ret
  exact ⟨rfl, rfl⟩

set_option maxRecDepth 100000 in
theorem read_none (d : Nat) (ao : Option Addr) (cap len : Nat) (s p x y z : Value) (off n : Int) (w : World) (hobj : w.heap[d]? = some (.cells #[.slice ao len cap, s, p, x, y, z] 62 (0, 0))) (h : off < 0 ∨ n < 1 ∨ (len : Int) ≤ off) :
    Calls Try.prog 35 #[.pointer (some ⟨d, 0, none⟩), .int .i64 off, .int .i64 n] w fun e w' => e = .returned (strV []) ∧ w = w' := by
  obtain ⟨c0, -⟩ := cells6 hobj
  clear hobj
  by_cases h0 : off < 0
  · clear h
    go_enter Try.func35, Try.ntmps35
    go_wp2
    go_ret
    exact ⟨rfl, rfl⟩
  · by_cases h1 : n < 1
    · clear h
      go_enter Try.func35, Try.ntmps35
      go_wp2
      go_ret
      exact ⟨rfl, rfl⟩
    · have h2 : (len : Int) ≤ off := by omega
      clear h
      go_enter Try.func35, Try.ntmps35
      go_wp2
      go_ret
      exact ⟨rfl, rfl⟩

set_option maxRecDepth 100000 in
theorem read_some (d : Nat) (ao : Option Addr) (cap : Nat) (c : List UInt8) (s p x y z : Value) (off n : Int) (w : World) (hobj : w.heap[d]? = some (.cells #[.slice ao c.length cap, s, p, x, y, z] 62 (0, 0))) (hb : Bts w 5 (.slice ao c.length cap) c) (h0 : 0 ≤ off) (h1 : 1 ≤ n) (h2 : off < (c.length : Int)) (hn : n ≤ 9223372036854775807) (hl : c.length ≤ 16777216) :
    Calls Try.prog 35 #[.pointer (some ⟨d, 0, none⟩), .int .i64 off, .int .i64 n] w fun e w' => e = .returned (strV ((c.drop off.toNat).take n.toNat)) ∧ ∃ k, w' = w.drewN k := by
  obtain ⟨c0, -⟩ := cells6 hobj
  clear hobj
  have hcap : c.length ≤ cap := by
    obtain ⟨ao', cap2, h5, h6, _⟩ := hb.slice
    injection h5 with _ _ h7
    omega
  have hdp : ∀ m, 0 < m → ∃ g n cap', Value.slice ao c.length cap = .slice (some ⟨g, 0, none⟩) n cap' ∧ ao.map (fun x => x.add off.toNat) = some ⟨g, off.toNat, none⟩ := by
    intro m _
    rcases hb.cases with ⟨hv, rfl⟩ | ⟨g, cap2, cur, hv, _⟩
    · simp at h2; omega
    · injection hv with hv1 _ hv3
      subst hv1
      exact ⟨g, _, cap, rfl, by simp [Addr.add_lit]⟩
  by_cases hm : n ≤ (c.length : Int) - off
  · have hconv : (convert 56 9 (.slice (Option.map (fun x => x.add off.toNat) ao) ((off + n).toNat - off.toNat) (cap - off.toNat))).run Try.prog w.drew = .ok (strV ((c.drop off.toNat).take n.toNat)) w.drew := by
      have e : (off + n).toNat - off.toNat = n.toNat := by omega
      rw [e]
      exact run_bytes_string (P := Try.prog) (w := w.drew) (show Bts w.drew 5 _ _ from hb) 56 9 Try.underlying56 Try.underlying5 Try.underlying9 _ _ _ _ (by omega) (hdp _)
    unfold strV at hconv
    clear hb hdp
    go_enter Try.func35, Try.ntmps35
    go_wp2
    go_region
    all_goals (try go_wp2)
    all_goals go_ret
    all_goals exact ⟨rfl, 1, rfl⟩
  · have hconv : (convert 56 9 (.slice (Option.map (fun x => x.add off.toNat) ao) ((off + ((c.length : Int) - off)).toNat - off.toNat) (cap - off.toNat))).run Try.prog w.drew = .ok (strV ((c.drop off.toNat).take n.toNat)) w.drew := by
      have e : (c.drop off.toNat).take n.toNat = (c.drop off.toNat).take (c.length - off.toNat) := by
        rw [List.take_of_length_le (by simp; omega), List.take_of_length_le (by simp)]
      have e2 : (off + ((c.length : Int) - off)).toNat - off.toNat = c.length - off.toNat := by omega
      rw [e, e2]
      exact run_bytes_string (P := Try.prog) (w := w.drew) (show Bts w.drew 5 _ _ from hb) 56 9 Try.underlying56 Try.underlying5 Try.underlying9 _ _ _ _ (by omega) (hdp _)
    unfold strV at hconv
    clear hb hdp
    go_enter Try.func35, Try.ntmps35
    go_wp2
    go_region
    all_goals (try go_wp2)
    all_goals go_ret
    all_goals exact ⟨rfl, 1, rfl⟩

/-- A disk is read. -/
theorem read_any (d : Nat) (c s p : Value) (D : Dk) (off n : Int) (w : World) (hR : DiskR w d c s p D) (hok : D.Ok) (hn : n ≤ 9223372036854775807) :
    Calls Try.prog 35 #[.pointer (some ⟨d, 0, none⟩), .int .i64 off, .int .i64 n] w fun e w' => e = .returned (strV (D.read off n)) ∧ ∃ k, w' = w.drewN k := by
  obtain ⟨ao, cap, rfl, -⟩ := hR.bc.slice
  by_cases h : off < 0 ∨ n < 1 ∨ off ≥ (D.now.length : Int)
  · have e : D.read off n = [] := by unfold Dk.read; rw [if_pos h]
    rw [e]
    refine (read_none d _ _ _ _ _ _ _ _ off n w hR.obj h).mono ?_
    rintro e w' ⟨rfl, rfl⟩
    exact ⟨rfl, 0, rfl⟩
  · have e : D.read off n = (D.now.drop off.toNat).take n.toNat := by unfold Dk.read; rw [if_neg h]
    rw [e]
    exact read_some d _ _ _ _ _ _ _ _ off n w hR.obj hR.bc (by omega) (by omega) (by omega) hn hok.len
end Go.Proofs.Ytehdjajeonemoaa
