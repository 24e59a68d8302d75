/-
  journal.write, and an append to a journal. Conditions: the journal and its disk lie among the things in memory.
-/
import Derived.Test.YtehdjajeonemoaaActs
import Derived.Test.YtehdjajeonemoaaJNum
import Derived.Test.YtehdjajeonemoaaJPlain
import Derived.Defers
namespace Go.Proofs.Ytehdjajeonemoaa
open Go.RowKit

theorem cells5 {w : World} {d : Nat} {c s p x y : Value} {t : TypeId} (h : w.heap[d]? = some (.cells #[c, s, p, x, y] t (0, 0))) :
    w.cell? ⟨d, 0, none⟩ = some c ∧ w.cell? ⟨d, 1, none⟩ = some s ∧ w.cell? ⟨d, 2, none⟩ = some p ∧ w.cell? ⟨d, 3, none⟩ = some x ∧ w.cell? ⟨d, 4, none⟩ = some y ∧
    w.frozen? ⟨d, 0, none⟩ = false ∧ w.frozen? ⟨d, 1, none⟩ = false ∧ w.frozen? ⟨d, 2, none⟩ = false ∧ w.frozen? ⟨d, 3, none⟩ = false ∧ w.frozen? ⟨d, 4, none⟩ = false := by
  refine ⟨?_, ?_, ?_, ?_, ?_, ?_, ?_, ?_, ?_, ?_⟩ <;> first | (rw [cell_of_row w d _ _ t _ h]; rfl) | exact frozen_of_row w d _ _ t h

/-- The block of a journal. -/
def jT (j d : Nat) (J : Jn) : Thing := cellT j #[.pointer (some ⟨d, 0, none⟩), .int .i64 J.fin, .int .i64 J.many, .int .i64 J.bytes, .bool J.broken] 95

theorem Own.jcells {w0 w : World} {L : List Thing} (h : Own w0 L w) {j d : Nat} {J : Jn} (k : Nat) (hk : L[k]? = some (jT j d J)) :
    w.cell? ⟨j, 0, none⟩ = some (.pointer (some ⟨d, 0, none⟩)) ∧ w.cell? ⟨j, 1, none⟩ = some (.int .i64 J.fin) ∧ w.cell? ⟨j, 2, none⟩ = some (.int .i64 J.many) ∧ w.cell? ⟨j, 3, none⟩ = some (.int .i64 J.bytes) ∧ w.cell? ⟨j, 4, none⟩ = some (.bool J.broken) ∧
    w.frozen? ⟨j, 0, none⟩ = false ∧ w.frozen? ⟨j, 1, none⟩ = false ∧ w.frozen? ⟨j, 2, none⟩ = false ∧ w.frozen? ⟨j, 3, none⟩ = false ∧ w.frozen? ⟨j, 4, none⟩ = false := cells5 (h.obj k hk)

theorem Own.wider {w0 w : World} {L : List Thing} {T : Thing} (i : Nat) (h : Own w0 (L.set i T) w) {d n n' : Nat} {D : Dk} (hi : (L.set i T)[i]? = some (diskT d D n)) (hn : n ≤ n') : Own w0 (L.set i (diskT d D n')) w := by
  obtain ⟨F, ⟨c, s', p, hd, hok, hfit, rfl⟩, _, ht⟩ := h.turn hi
  have := ht (diskT d D n') _ w ⟨c, s', p, hd, hok, hfit.mono hn, rfl⟩ (Frm.refl _ _) (Sub.refl _ _)
  rw [List.set_set] at this
  exact this

set_option maxRecDepth 100000 in
set_option maxHeartbeats 2000000 in
theorem own_jwrite {w0 w : World} {L : List Thing} (h : Own w0 L w) {j d : Nat} {J : Jn} {D : Dk} {n : Nat} (i k : Nat) (hi : L[i]? = some (diskT d D n)) (hk : L[k]? = some (jT j d J)) (hik : i ≠ k) (off : Nat) (s : ByteArray)
    (hn : n + s.size + 1 ≤ 1099511627776) (ho : off ≤ 16777216) :
    Calls Try.prog 63 #[.pointer (some ⟨j, 0, none⟩), .int .i64 off, .string s] w fun e w' => e = .returned (.bool (D.both off s.data.toList).1) ∧ Own w0 (L.set i (diskT d (D.both off s.data.toList).2 (n + s.size + 2))) w' := by
  obtain ⟨c0, -⟩ := h.jcells k hk
  go_enter Try.func63, Try.ntmps63
  go_wp2_with fail
  refine (own_write h i hi off s (by omega) (by omega)).mono ?_
  rintro e w1 ⟨rfl, h1⟩
  have hk1 : (L.set i (diskT d (D.write off s.data.toList).2 (n + s.size + 1)))[k]? = some (jT j d J) := by rw [List.getElem?_set_ne hik]; exact hk
  have hi1 : (L.set i (diskT d (D.write off s.data.toList).2 (n + s.size + 1)))[i]? = some (diskT d (D.write off s.data.toList).2 (n + s.size + 1)) := List.getElem?_set_self (List.getElem?_eq_some_iff.1 hi).1
  obtain ⟨d0, -⟩ := h1.jcells k hk1
  have hb : D.both off s.data.toList = if (D.write off s.data.toList).1 = 0 then (decide ((D.write off s.data.toList).2.sync.1 = 0), (D.write off s.data.toList).2.sync.2) else (false, (D.write off s.data.toList).2) := rfl
  by_cases hw : (D.write off s.data.toList).1 = 0
  · rw [if_pos hw] at hb
    have Hb := Lib.hid hb
    rw [hw]
    clear hb hw c0
    generalize (D.write off s.data.toList).2 = D1 at h1 hi1 Hb ⊢
    go_wp2_with fail
    refine (own_sync h1 i hi1 (by omega)).mono ?_
    rintro e w2 ⟨rfl, h2⟩
    rw [List.set_set] at h2
    by_cases hs : D1.sync.1 = 0
    · rw [hs]
      go_wp2_with fail
      go_ret
      rw [Hb.out]
      exact ⟨by simp [hs], h2⟩
    · have hs' : (D1.sync.1 == 0) = false := by simpa using hs
      clear hs
      go_wp2_with fail
      go_ret
      rw [Hb.out]
      have : ¬ D1.sync.1 = 0 := by simpa using hs'
      exact ⟨by simp [this], h2⟩
  · rw [if_neg hw] at hb
    have Hb := Lib.hid hb
    have hw' : ((D.write off s.data.toList).1 == 0) = false := by simpa using hw
    clear hb hw c0
    generalize (D.write off s.data.toList).1 = c at hw' ⊢
    go_wp2_with fail
    go_ret
    rw [Hb.out]
    exact ⟨rfl, h1.wider i hi1 (by omega)⟩
end Go.Proofs.Ytehdjajeonemoaa
