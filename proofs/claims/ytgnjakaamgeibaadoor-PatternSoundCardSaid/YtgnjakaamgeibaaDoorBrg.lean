/-
  A region that draws its order, inside the round of a range over a function. Conditions: it defers nothing.
-/
import Derived.Test.YtgnjakaamgeibaaDoorRange2
import Derived.RangeFuncLeaves
import Derived.RangeFuncCalls
import Derived.OrdersHeld
import Derived.Deep.RegionHeld
namespace Go.Proofs.YtgnjakaamgeibaaDoor

theorem rowsIn_round {l n : Nat} {P : Program} {row : String} {args : Array Value} {w : World} {R : Value → World → Prop} (h : Rows P row args w R) : RowsIn (Fence.wide.inRound l) n P row args w R :=
  fun c cs _ => let ⟨v, w', r, s⟩ := h c cs; ⟨v, w', r, stepsIn_wide.2 s⟩

theorem opsIn_round {l n : Nat} {P : Program} {ops : Array Oper} {Q : Exit → Act → World → Prop} (hnd : ∀ (i : Nat) (o : Oper), ops[i]? = some o → ∀ c, o.op ≠ .defer c) (hQ : ¬ LetsOut Q) :
    ∀ (is : List Nat) (a : Act) (w : World), wpOps P ops Q is a w → wpOpsIn (Fence.wide.inRound l) n P ops Q is a w
  | [], a, w, h => h
  | i :: rest, a, w, h => by
    unfold wpOps at h
    unfold wpOpsIn
    cases ho : ops[i]? with
    | none =>
      rw [ho] at h
      exact opsIn_round hnd hQ rest a w h
    | some o =>
      rw [ho] at h
      simp only at h ⊢
      split
      · rename_i hw
        rw [if_pos hw] at h
        rcases h with h | h
        · refine ⟨fun f _ => trivial, ?_⟩
          rw [Oper.semAt_eq _ _ _ (hnd i o ho)]
          unfold Oper.wp at h
          generalize (execOp a.eval o).run P w = r at *
          cases r with
          | ok x w' =>
            cases x <;> simp only [Oper.upon, Oper.uponIn] at h ⊢ <;>
              first
                | exact opsIn_round hnd hQ rest _ _ h
                | exact ⟨fun hh => (by cases hh), CallsIn.inRound l (callsIn_wide.2 (h.mono (fun e w'' he => by cases e <;> first | exact opsIn_round hnd hQ rest _ _ he | exact he)))⟩
                | exact ⟨fun hh => (by cases hh), rowsIn_round (Rows.mono h (fun _ _ he => opsIn_round hnd hQ rest _ _ he))⟩
          | halt x w' => cases x <;> simp only [Oper.upon, Oper.uponIn] at h ⊢ <;> exact h
        · exact absurd h.2 hQ
      · rename_i hw
        rw [if_neg hw] at h
        exact ⟨fun f _ => trivial, opsIn_round hnd hQ rest _ _ h⟩

def noDef (o : Oper) : Bool := match o.op with | .defer _ => false | _ => true
theorem noDef_of {ops : Array Oper} (h : ops.all noDef = true) (i : Nat) (o : Oper) (ho : ops[i]? = some o) (c : Call) : o.op ≠ .defer c := by
  intro e
  have hm : o ∈ ops := Array.mem_of_getElem? ho
  have := Array.all_eq_true_iff_forall_mem.1 h o hm
  unfold noDef at this
  rw [e] at this
  cases this

/-- THE BEGINNING of a walk through such a region. -/
theorem region_round {l n : Nat} {P : Program} {id : Nat} {ops : Array Oper} {Q : Exit → Act → World → Prop} {S : World → Prop} {a : Act} {w : World} (hm : P.follows .mixedOrders = true) (hnd : ops.all noDef = true) (hQ : ¬ LetsOut Q) (hS : S w.drew)
    (h : S w.drew → wpAnyH P .any ops Q S ops.size (Array.replicate ops.size false) a w.drew) : (Code.region id ops true).wpIn (Fence.wide.inRound l) n P Q a w :=
  wpIn_region_draw fun t => by
    simp only [Region.schedule, hm, Bool.true_or, if_true]
    exact opsIn_round (noDef_of hnd) hQ _ _ _ (wpAny_sound ops.size t _ a _ (wpAny_of_held _ _ _ _ (h hS)))

/-! ### Marks of ranges in a loop -/
def mkD (D : Nat) : Deferred := { target := .collected D, args := #[] }
def marks (Ds : List Nat) : List Deferred := Ds.map mkD
def marksT (Ds : List Nat) : List Thing := Ds.map fun D => blockT D (.deferred (some []))
theorem own_mark {w0 W : World} (A B M : List Thing) (T : Thing) (h : Own w0 ((A ++ B) ++ (M ++ [T])) W) : Own w0 (A ++ (T :: B)) W := by
  refine h.reidx (fun j => if j < A.length then j else if j = A.length then (A ++ B ++ M).length else j - 1) (fun j U hj => ?_) (fun i j hi hj e => ?_)
  · split
    · rename_i hl
      rw [List.getElem?_append_left hl] at hj
      rw [List.append_assoc, List.getElem?_append_left hl]
      exact hj
    · rename_i hl
      rw [List.getElem?_append_right (by omega)] at hj
      split
      · rename_i he
        rw [he, Nat.sub_self] at hj
        rw [← List.append_assoc, List.getElem?_append_right (Nat.le_refl _), Nat.sub_self]
        exact hj
      · rename_i he
        obtain ⟨k, hk⟩ : ∃ k, j - A.length = k + 1 := ⟨j - A.length - 1, by omega⟩
        rw [hk, List.getElem?_cons_succ] at hj
        have hkB := (List.getElem?_eq_some_iff.1 hj).1
        rw [List.append_assoc, List.getElem?_append_right (by omega), show j - 1 - A.length = k by omega, List.getElem?_append_left hkB]
        exact hj
  · simp only [List.length_append, List.length_cons] at hi hj
    simp only [List.length_append] at e
    split at e <;> split at e <;> (try split at e) <;> (try split at e) <;> omega
theorem leaves_marks {F : Fence} {n : Nat} {P : Program} {fn : Func} {tmps : Array Value} {R : Ending → World → Prop} {w0 : World} {L : List Thing} : ∀ (Ds : List Nat) (W : World), Own w0 (L ++ marksT Ds) W →
    (∀ W', Own w0 L W' → LeavesInM F n P fn tmps R [] .returning W') → LeavesInM F n P fn tmps R (marks Ds) .returning W
  | [], W, h, hE => hE W (by simpa [marksT] using h)
  | D :: Ds, W, h, hE => by
    have hK := h.blk (x := D) (o := .deferred (some [])) L.length (by simp [marksT])
    refine ⟨by simp, .inl ⟨D, _, rfl, run_takeDeferred hK, leaves_marks Ds _ ?_ hE⟩⟩
    have h2 := h.putBlk (x := D) (o := .deferred (some [])) L.length (by simp [marksT]) (.deferred none)
    refine h2.reidx (fun j => if j < L.length then j else j + 1) (fun j U hj => ?_) (fun i j _ _ e => ?_)
    · split
      · rename_i hl
        rw [List.getElem?_append_left hl] at hj
        rw [List.set_append_right (h := Nat.le_refl _), List.getElem?_append_left hl]
        exact hj
      · rename_i hl
        rw [List.getElem?_append_right (by omega)] at hj
        rw [List.set_append_right (h := Nat.le_refl _), List.getElem?_append_right (by omega), Nat.sub_self, show j + 1 - L.length = (j - L.length) + 1 by omega]
        exact hj
    · split at e <;> split at e <;> omega
end Go.Proofs.YtgnjakaamgeibaaDoor
