/-
  A region that draws its order, inside the round of a range over a function. Conditions: it defers nothing.
-/
import Derived.Test.YtgnjakaamgeibaaGreatDoorRange
import Derived.RangeFuncLeaves
import Derived.RangeFuncCalls
import Derived.OrdersHeld
import Derived.Deep.RegionHeld
namespace Go.Proofs.YtgnjakaamgeibaaGreatDoor
def mkD (D : Nat) : Deferred := { target := .collected D, args := #[] }
def marks (Ds : List Nat) : List Deferred := Ds.map mkD
def marksT (Ds : List Nat) : List Thing := Ds.map fun D => blockT D (.deferred (some []))
theorem own_mark {w0 W : World} (A B M : List Thing) (T : Thing) (h : Own w0 ((A ++ B) ++ (M ++ [T])) W) : Own w0 (A ++ (T :: B)) W := by
  refine h.reidx (fun j => if j < A.length then j else if j = A.length then (A ++ B ++ M).length else j - 1) (fun j U hj => ?_) (fun i j hi hj e => ?_)
  · split
    · rename_i hl
      rw [List.getElem?_append_left hl] at hj
      rw [List.append_assoc, List.getElem?_append_left hl]
      exact hj
    · rename_i hl
      rw [List.getElem?_append_right (by omega)] at hj
      split
      · rename_i he
        rw [he, Nat.sub_self] at hj
        rw [← List.append_assoc, List.getElem?_append_right (Nat.le_refl _), Nat.sub_self]
        exact hj
      · rename_i he
        obtain ⟨k, hk⟩ : ∃ k, j - A.length = k + 1 := ⟨j - A.length - 1, by omega⟩
        rw [hk, List.getElem?_cons_succ] at hj
        have hkB := (List.getElem?_eq_some_iff.1 hj).1
        rw [List.append_assoc, List.getElem?_append_right (by omega), show j - 1 - A.length = k by omega, List.getElem?_append_left hkB]
        exact hj
  · simp only [List.length_append, List.length_cons] at hi hj
    simp only [List.length_append] at e
    split at e <;> split at e <;> (try split at e) <;> (try split at e) <;> omega
theorem leaves_marks {F : Fence} {n : Nat} {P : Program} {fn : Func} {tmps : Array Value} {R : Ending → World → Prop} {w0 : World} {L : List Thing} : ∀ (Ds : List Nat) (W : World), Own w0 (L ++ marksT Ds) W →
    (∀ W', Own w0 L W' → LeavesInM F n P fn tmps R [] .returning W') → LeavesInM F n P fn tmps R (marks Ds) .returning W
  | [], W, h, hE => hE W (by simpa [marksT] using h)
  | D :: Ds, W, h, hE => by
    have hK := h.blk (x := D) (o := .deferred (some [])) L.length (by simp [marksT])
    refine ⟨by simp, .inl ⟨D, _, rfl, run_takeDeferred hK, leaves_marks Ds _ ?_ hE⟩⟩
    have h2 := h.putBlk (x := D) (o := .deferred (some [])) L.length (by simp [marksT]) (.deferred none)
    refine h2.reidx (fun j => if j < L.length then j else j + 1) (fun j U hj => ?_) (fun i j _ _ e => ?_)
    · split
      · rename_i hl
        rw [List.getElem?_append_left hl] at hj
        rw [List.set_append_right (h := Nat.le_refl _), List.getElem?_append_left hl]
        exact hj
      · rename_i hl
        rw [List.getElem?_append_right (by omega)] at hj
        rw [List.set_append_right (h := Nat.le_refl _), List.getElem?_append_right (by omega), Nat.sub_self, show j + 1 - L.length = (j - L.length) + 1 by omega]
        exact hj
    · split at e <;> split at e <;> omega
end Go.Proofs.YtgnjakaamgeibaaGreatDoor
