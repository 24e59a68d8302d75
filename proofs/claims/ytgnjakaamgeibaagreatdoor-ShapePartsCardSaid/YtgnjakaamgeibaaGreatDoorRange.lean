/-
  The statement 'for x := range f' over a function: an iterator that keeps things of its own in memory, and a caller whose things lie apart from them. Conditions: none.
-/
import Derived.Test.YtgnjakaamgeibaaGreatDoorOwn
import Derived.RangeFuncNested
import Derived.RangeFuncBound
import Derived.RangeFuncCalls
import Derived.RangeFuncLeaves
import Derived.Shelf.Abstract
import Derived.Shelf.RegionOpen
import Derived.WalkKit
import Derived.OwnWalkIn
import Derived.TacticsInMore
import Derived.LoopNIn
import Derived.LoopIn
namespace Go.Proofs.YtgnjakaamgeibaaGreatDoor
open Go.RowKit
/-- A block, whatever it holds. -/
def blockT (x : Nat) (o : Obj) : Thing where
  P w F := w.heap[x]? = some o ∧ F = fun k => k = x
  stable w w' F G h hf hF := ⟨(hf.block x (Array.getElem?_eq_some_iff.1 h.1).1 (hF x (by rw [h.2]))).trans h.1, h.2⟩
  lt w F k h hk := by
    rw [h.2] at hk
    subst hk
    exact (Array.getElem?_eq_some_iff.1 h.1).1
theorem Own.blk {w0 w : World} {L : List Thing} (h : Own w0 L w) {x : Nat} {o : Obj} (i : Nat) (hi : L[i]? = some (blockT x o)) : w.heap[x]? = some o := by
  obtain ⟨F, hF⟩ := h.get hi
  exact hF.1
theorem Own.newBlk {w0 w : World} {L : List Thing} (h : Own w0 L w) (o : Obj) : Own w0 (L ++ [blockT w.heap.size o]) (w.alloc o) :=
  h.add (T := blockT w.heap.size o) ⟨World.alloc_heap_new w o, rfl⟩ ((Frm.refl _ _).alloc _) fun k hk => by subst hk; exact Nat.le_refl _
/-- A block is turned. -/
theorem Own.putBlk {w0 w : World} {L : List Thing} (h : Own w0 L w) {x : Nat} {o : Obj} (k : Nat) (hk : L[k]? = some (blockT x o)) (o' : Obj) : Own w0 (L.set k (blockT x o')) (w.putObj x o') := by
  obtain ⟨F, hT, _, ht⟩ := h.turn hk
  have hlt := (Array.getElem?_eq_some_iff.1 hT.1).1
  refine ht (blockT x o') F _ ⟨World.putObj_heap_same hlt, hT.2⟩ ⟨rfl, rfl, rfl, by simp, fun i _ hi => World.putObj_heap_other (fun e => hi (by rw [hT.2, e]))⟩ (Sub.refl _ _)
/-- Things in another order, or fewer of them. -/
theorem Own.reidx {w0 w : World} {L M : List Thing} (f : Nat → Nat) (hf : ∀ j U, M[j]? = some U → L[f j]? = some U) (hi : ∀ i j, i < M.length → j < M.length → f i = f j → i = j) (h : Own w0 L w) : Own w0 M w := by
  obtain ⟨F, h1, h2, h3⟩ := h.fp
  have key : ∀ j, j < M.length → f j < L.length := fun j hj => (List.getElem?_eq_some_iff.1 (hf j _ (List.getElem?_eq_getElem hj))).1
  exact ⟨h.frm, fun j => F (f j), fun j U hj => h1 _ U (hf j U hj), fun j k hj => h2 _ k (key j hj), fun i j k hi' hj' g1 g2 => hi i j hi' hj' (h3 _ _ k (key i hi') (key j hj') g1 g2)⟩
/-- The first things are put behind the others. -/
theorem Own.swap {w0 w : World} (L M : List Thing) (h : Own w0 (L ++ M) w) : Own w0 (M ++ L) w := by
  refine h.reidx (fun j => if j < M.length then j + L.length else j - M.length) (fun j U hj => ?_) (fun i j hi hj e => ?_)
  · have hlt := (List.getElem?_eq_some_iff.1 hj).1
    rw [List.length_append] at hlt
    by_cases e : j < M.length
    · rw [List.getElem?_append_left e] at hj
      rw [if_pos e, List.getElem?_append_right (by omega), Nat.add_sub_cancel]
      exact hj
    · rw [List.getElem?_append_right (by omega)] at hj
      rw [if_neg e, List.getElem?_append_left (by omega)]
      exact hj
  · rw [List.length_append] at hi hj
    by_cases e1 : i < M.length <;> by_cases e2 : j < M.length <;> simp only [e1, e2, if_true, if_false] at e <;> omega
/-- The last two things are put first, the last one before the other. -/
theorem Own.flip {w0 w : World} {L : List Thing} {A B : Thing} (h : Own w0 (L ++ [A] ++ [B]) w) : Own w0 (B :: A :: L) w := by
  refine h.reidx (fun j => if j = 0 then L.length + 1 else if j = 1 then L.length else j - 2) (fun j U hj => ?_) (fun i j hi hj e => ?_)
  · match j, hj with
    | 0, hj =>
      rw [if_pos rfl, List.getElem?_append_right (by simp)]
      simpa using hj
    | 1, hj =>
      rw [if_neg (by decide), if_pos rfl, List.append_assoc, List.getElem?_append_right (Nat.le_refl _)]
      simpa using hj
    | j + 2, hj =>
      have hj' : L[j]? = some U := hj
      rw [if_neg (by omega), if_neg (by omega), List.append_assoc, Nat.add_sub_cancel, List.getElem?_append_left (List.getElem?_eq_some_iff.1 hj').1]
      exact hj'
  · simp only [List.length_cons] at hi hj
    split at e <;> split at e <;> (try split at e) <;> (try split at e) <;> omega
/-- The last things are forgotten. -/
theorem Own.init {w0 w : World} {L : List Thing} (M : List Thing) (h : Own w0 (L ++ M) w) : Own w0 L w :=
  h.reidx id (fun j U hj => by rw [id, List.getElem?_append_left (List.getElem?_eq_some_iff.1 hj).1]; exact hj) (fun _ _ _ _ e => e)
/-- A cell of a thing is stored. -/
theorem Own.store {w0 w : World} {L : List Thing} (h : Own w0 L w) {x : Nat} {cs : Array Value} {t : TypeId} (k : Nat) (hk : L[k]? = some (cellT x cs t)) (i : Nat) (v : Value) : Own w0 (L.set k (cellT x (cs.setIfInBounds i v) t)) (w.setCell ⟨x, i, none⟩ v) := by
  obtain ⟨F, hT, _, ht⟩ := h.turn hk
  refine ht (cellT x (cs.setIfInBounds i v) t) F _ ⟨heap_set hT.1 v, hT.2⟩ ((Frm.refl _ _).setCell (.inl (by rw [hT.2])) _) (Sub.refl _ _)
/-- How the body of a round may be left. -/
def outOwn {α : Type} (w0 : World) (M : List Thing) (I : List α → List Thing → Prop) (Ix : Code → List α → List Thing → Prop) (xs : List α) : Exit → Act → World → Prop
  | .normal, _, W' => ∃ L', I xs L' ∧ Own w0 (L' ++ M) W'
  | .ret, _, W' => ∃ L', Ix .ret xs L' ∧ Own w0 (L' ++ M) W'
  | .exit id, _, W' => ∃ L', Ix (.exit id) xs L' ∧ Own w0 (L' ++ M) W'
  | .goto t, _, W' => ∃ L', Ix (.goto t) xs L' ∧ Own w0 (L' ++ M) W'
  | .panic _, _, _ => False
  | .outgrown, _, _ => False
variable {F : Fence} {n : Nat} {P : Program}
end Go.Proofs.YtgnjakaamgeibaaGreatDoor
