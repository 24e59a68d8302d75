/-
  Things in memory that lie apart from each other; what a call makes of one of them. Conditions: none.
-/
import Derived.Test.YtgnjakaamgeibaaGreatDoorKit
import Derived.Laws.Rows
import Derived.RangeFuncNested
import Derived.RangeFuncBound
import Derived.RangeFuncCalls
import Derived.RangeFuncLeaves
import Derived.Deep.RegionHeld3
import Derived.Shelf.Strings.BuilderK
namespace Go.Proofs.YtgnjakaamgeibaaGreatDoor
open Go.RowKit
theorem size_toList (r : ByteArray) : r.data.toList.length = r.size := by rw [Array.length_toList]; rfl
theorem ret_bool {a b : Bool} (h : a = b) : Ending.returned (.bool a) = .returned (.bool b) := by rw [h]
/-- What a call may have taken besides: new blocks. -/
def Sub (w : World) (F F' : Nat → Prop) : Prop := ∀ k, F' k → F k ∨ w.heap.size ≤ k
theorem Sub.refl (w : World) (F : Nat → Prop) : Sub w F F := fun _ h => .inl h
theorem Sub.trans {w w' : World} {F G H : Nat → Prop} (h : Sub w F G) (k : Sub w' G H) (hs : w.heap.size ≤ w'.heap.size) : Sub w F H := fun x hx => (k x hx).elim (fun a => h x a) (fun a => .inr (Nat.le_trans hs a))
/-- One field is stored. -/
theorem heap_set {w : World} {d i : Nat} {cs : Array Value} {t : TypeId} (h : w.heap[d]? = some (.cells cs t (0, 0))) (v : Value) : (w.setCell ⟨d, i, none⟩ v).heap[d]? = some (.cells (cs.setIfInBounds i v) t (0, 0)) := heap_setCell_same w d i cs t v h
theorem new_cells (w : World) (cs : Array Value) (t : TypeId) (n : Nat) (hn : n = w.heap.size) : ∀ j u, cs.toList[j]? = some u → (w.alloc (.cells cs t)).cell? ((⟨n, 0, none⟩ : Addr).add j) = some u := by
  intro j u h
  subst hn
  have : (⟨w.heap.size, 0, none⟩ : Addr).add j = ⟨w.heap.size, j, none⟩ := by rw [Addr.add_lit]; simp
  rw [this, World.cell?_alloc_new]
  simpa using h
/-- A thing in memory: what is said of the world and of the blocks that it takes. -/
structure Thing where
  P : World → (Nat → Prop) → Prop
  stable : ∀ w w' F G, P w F → Frm G w w' → (∀ k, F k → ¬ G k) → P w' F
  lt : ∀ w F k, P w F → F k → k < w.heap.size
/-- The things of the list lie apart, in blocks that were not there in the world w0. -/
structure Own (w0 : World) (L : List Thing) (w : World) : Prop where
  frm : Frm (fun _ => False) w0 w
  fp : ∃ F : Nat → Nat → Prop, (∀ i (T : Thing), L[i]? = some T → T.P w (F i)) ∧ (∀ i k, i < L.length → F i k → w0.heap.size ≤ k) ∧ (∀ i j k, i < L.length → j < L.length → F i k → F j k → i = j)
theorem Own.start (w0 : World) : Own w0 [] w0 := ⟨Frm.refl _ _, fun _ _ => False, fun i T h => by simp at h, fun i k h => by simp at h, fun i j k h => by simp at h⟩
theorem Own.still {w0 w w' : World} {L : List Thing} (h : Own w0 L w) (hf : Frm (fun _ => False) w w') : Own w0 L w' := by
  obtain ⟨F, h1, h2, h3⟩ := h.fp
  exact ⟨h.frm.trans hf, F, fun i T hi => T.stable _ _ _ _ (h1 i T hi) hf fun _ _ h => h, h2, h3⟩
theorem Own.drew {w0 w : World} {L : List Thing} (h : Own w0 L w) : Own w0 L w.drew := h.still (Frm.refl _ _).drew
theorem Own.drewN {w0 w : World} {L : List Thing} (h : Own w0 L w) (n : Nat) : Own w0 L (w.drewN n) := h.still ((Frm.refl _ _).drewN n)
theorem Own.alloc {w0 w : World} {L : List Thing} (h : Own w0 L w) (o : Obj) : Own w0 L (w.alloc o) := h.still ((Frm.refl _ _).alloc o)
theorem Own.get {w0 w : World} {L : List Thing} (h : Own w0 L w) {i : Nat} {T : Thing} (hi : L[i]? = some T) : ∃ F, T.P w F := by
  obtain ⟨F, h1, h2, h3⟩ := h.fp
  exact ⟨F i, h1 i T hi⟩
theorem Own.turn {w0 w : World} {L : List Thing} (h : Own w0 L w) {i : Nat} {T : Thing} (hi : L[i]? = some T) :
    ∃ F, T.P w F ∧ (∀ k, F k → w0.heap.size ≤ k) ∧ ∀ (T' : Thing) (F' : Nat → Prop) (w' : World), T'.P w' F' → Frm F w w' → Sub w F F' → Own w0 (L.set i T') w' := by
  obtain ⟨F, h1, h2, h3⟩ := h.fp
  have hil : i < L.length := (List.getElem?_eq_some_iff.1 hi).1
  refine ⟨F i, h1 i T hi, fun k => h2 i k hil, fun T' F' w' hT hf hs => ?_⟩
  refine ⟨h.frm.trans' hf fun k hk => .inr (h2 i k hil hk), fun j => if j = i then F' else F j, fun j U hj => ?_, fun j k hj hk => ?_, fun a b k ha hb hka hkb => ?_⟩
  · by_cases e : j = i
    · subst e
      simp only [if_true]
      rw [List.getElem?_set_self hil] at hj
      cases hj
      exact hT
    · simp only [if_neg e]
      rw [List.getElem?_set_ne (fun h => e h.symm)] at hj
      exact U.stable _ _ _ _ (h1 j U hj) hf fun k hk hk2 => e (h3 j i k (List.getElem?_eq_some_iff.1 hj).1 hil hk hk2)
  · rw [List.length_set] at hj
    by_cases e : j = i
    · simp only [if_pos e] at hk
      rcases hs k hk with hk | hk
      · exact h2 i k hil hk
      · exact Nat.le_trans h.frm.size hk
    · simp only [if_neg e] at hk
      exact h2 j k hj hk
  · rw [List.length_set] at ha hb
    have key : ∀ j, j < L.length → j ≠ i → F j k → F' k → False := by
      intro j hj hne hk1 hk2
      rcases hs k hk2 with e | e
      · exact hne (h3 j i k hj hil hk1 e)
      · have hj' : L[j]? = some L[j] := List.getElem?_eq_getElem hj
        have := (L[j]).lt w (F j) k (h1 j _ hj') hk1
        omega
    by_cases ea : a = i <;> by_cases eb : b = i
    · rw [ea, eb]
    · simp only [if_pos ea] at hka
      simp only [if_neg eb] at hkb
      exact (key b hb eb hkb hka).elim
    · simp only [if_neg ea] at hka
      simp only [if_pos eb] at hkb
      exact (key a ha ea hka hkb).elim
    · simp only [if_neg ea] at hka
      simp only [if_neg eb] at hkb
      exact h3 a b k ha hb hka hkb
theorem Own.add {w0 w w' : World} {L : List Thing} (h : Own w0 L w) {T : Thing} {F' : Nat → Prop} (hT : T.P w' F') (hf : Frm (fun _ => False) w w') (hs : ∀ k, F' k → w.heap.size ≤ k) : Own w0 (L ++ [T]) w' := by
  obtain ⟨F, h1, h2, h3⟩ := h.fp
  have key : ∀ j k, j < L.length → F j k → F' k → False := by
    intro j k hj hk1 hk2
    have hj' : L[j]? = some L[j] := List.getElem?_eq_getElem hj
    have := (L[j]).lt w (F j) k (h1 j _ hj') hk1
    have := hs k hk2
    omega
  refine ⟨h.frm.trans hf, fun j => if j = L.length then F' else F j, fun j U hj => ?_, fun j k hj hk => ?_, fun a b k ha hb hka hkb => ?_⟩
  · by_cases e : j = L.length
    · subst e
      simp only [if_true]
      simp at hj
      cases hj
      exact hT
    · have hjl : j < L.length := by
        have := (List.getElem?_eq_some_iff.1 hj).1
        simp at this
        omega
      simp only [if_neg e]
      rw [List.getElem?_append_left hjl] at hj
      exact U.stable _ _ _ _ (h1 j U hj) hf fun _ _ h => h
  · simp at hj
    by_cases e : j = L.length
    · simp only [if_pos e] at hk
      exact Nat.le_trans h.frm.size (hs k hk)
    · simp only [if_neg e] at hk
      exact h2 j k (by omega) hk
  · simp at ha hb
    by_cases ea : a = L.length <;> by_cases eb : b = L.length
    · rw [ea, eb]
    · simp only [if_pos ea] at hka
      simp only [if_neg eb] at hkb
      exact (key b k (by omega) hkb hka).elim
    · simp only [if_neg ea] at hka
      simp only [if_pos eb] at hkb
      exact (key a k (by omega) hka hkb).elim
    · simp only [if_neg ea] at hka
      simp only [if_neg eb] at hkb
      exact h3 a b k (by omega) (by omega) hka hkb
/-- A block of cells. -/
def cellT (x : Nat) (cs : Array Value) (t : TypeId) : Thing where
  P w F := w.heap[x]? = some (.cells cs t (0, 0)) ∧ F = fun k => k = x
  stable w w' F G h hf hF := ⟨hf.heap h.1 (hF x (by rw [h.2])), h.2⟩
  lt w F k h hk := by
    rw [h.2] at hk
    subst hk
    exact (Array.getElem?_eq_some_iff.1 h.1).1
theorem Own.obj {w0 w : World} {L : List Thing} (h : Own w0 L w) {x : Nat} {cs : Array Value} {t : TypeId} (i : Nat) (hi : L[i]? = some (cellT x cs t)) : w.heap[x]? = some (.cells cs t (0, 0)) := by
  obtain ⟨F, hF⟩ := h.get hi
  exact hF.1
theorem Own.box {w0 w : World} {L : List Thing} (h : Own w0 L w) (cs : Array Value) (t : TypeId) : Own w0 (L ++ [cellT w.heap.size cs t]) (w.alloc (.cells cs t)) :=
  h.add (T := cellT w.heap.size cs t) ⟨heap_alloc_new w _, rfl⟩ ((Frm.refl _ _).alloc _) fun k hk => by subst hk; exact Nat.le_refl _
theorem Own.cell1 {w0 w : World} {L : List Thing} (h : Own w0 L w) {x : Nat} {v : Value} {t : TypeId} (i : Nat) (hi : L[i]? = some (cellT x #[v] t)) : w.cell? ⟨x, 0, none⟩ = some v ∧ w.frozen? ⟨x, 0, none⟩ = false :=
  ⟨by rw [cell_of_row w x 0 _ _ _ (h.obj i hi)]; rfl, frozen_of_row w x 0 _ _ (h.obj i hi)⟩
theorem toList_data (s : ByteArray) : s.toList = s.data.toList := ByteArray.toList_eq s
end Go.Proofs.YtgnjakaamgeibaaGreatDoor
