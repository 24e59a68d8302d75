/-
  The statement 'for x := range f' over a function whose contract holds above one world. Conditions: none.
-/
import Derived.Test.YtgnjakaamgeibaaGreatDoorRange
namespace Go.Proofs.YtgnjakaamgeibaaGreatDoor
open Go.RowKit
/-- The contract of an iterator above one world. -/
def IterAt {α : Type} (w0 : World) (F : Fence) (n : Nat) (P : Program) (g : Nat) (lb : Array Value) (encs : α → Array Value) (T0 : List Thing) (S Sp : List α → Prop) (V : List α → α → Prop) : Prop :=
  ∀ (l : Nat) (M Mx : List α → List Thing → Prop) (Lm : List Thing) (W : World), Own w0 (Lm ++ T0) W → M [] Lm →
    (∀ pre x W1 Lm T, M pre Lm → Own w0 (Lm ++ T) W1 → V pre x → YieldAt F (n - 1) P l (encs x) W1 fun e W' =>
      (e = .returned (.bool true) ∧ ∃ Lm', M (pre ++ [x]) Lm' ∧ Own w0 (Lm' ++ T) W') ∨ (e = .returned (.bool false) ∧ ∃ Lm', Mx (pre ++ [x]) Lm' ∧ Own w0 (Lm' ++ T) W')) →
    CallsIn F n P g (#[.func (.yield l) #[] #[]] ++ lb) W fun e W' => (∃ v, e = .returned v) ∧
      ((∃ xs Lm' T, S xs ∧ M xs Lm' ∧ Own w0 (Lm' ++ T) W') ∨ (∃ pre Lm' T, Sp pre ∧ Mx pre Lm' ∧ Own w0 (Lm' ++ T) W'))
variable {F : Fence} {n : Nat} {P : Program}
/-- A RANGE OVER AN ITERATOR THAT HAS ITS CONTRACT. -/
theorem wpIn_range_at {α : Type} {g : Operand} {ps : Array Tmp} {assign body : Code} {Q : Exit → Act → World → Prop} {a : Act} {w : World}
    (hro : F.round = none) (h1 : 1 ≤ n) {gf : Nat} {lb : Array Value} (hg : a.eval g = .func (.func gf) #[] lb) (hFg : F.fn gf) (eg : ∀ args w, (callFunc gf args).run P w = .ok (.enter gf args) w)
    {encs : α → Array Value} {T0 : List Thing} {S Sp : List α → Prop} {V : List α → α → Prop} (w0 : World) (hseq : IterAt w0 F (n - 1) P gf lb encs T0 S Sp V) (hps : ∀ x, (encs x).size = ps.size)
    (I : List α → List Thing → Prop) (Ix : Code → List α → List Thing → Prop) (L0 : List Thing) (hw : Own w0 (L0 ++ T0) w) (h0 : I [] L0)
    (hround : ∀ (l : Nat) (pre : List α) (x : α) (W : World) (L : List Thing), I pre L → V pre x →
      assign.wpIn (F.inRound l) (n - 1 - 1) P (Exit.then (fun a' W' => W' = W ∧ ∀ (M : List Thing) (W2 : World), Own w0 (L ++ M) W2 → body.wpIn (F.inRound l) (n - 1 - 1) P (outOwn w0 M I Ix (pre ++ [x])) a' W2) (fun _ _ _ => False)) { tmps := (ps.zip (encs x)).foldl (fun t (p, v) => t.setIfInBounds p v) a.tmps, defers := [] } W)
    (hdone : ∀ (D : Nat) (xs : List α) (W : World) (L M : List Thing), S xs → I xs L → Own w0 (L ++ (M ++ [blockT D (.deferred (some []))])) W → Q .normal { a with defers := { target := .collected D, args := #[] } :: a.defers } W)
    (hstop : ∀ (D : Nat) (c : Code) (pre : List α) (W : World) (L M : List Thing), Sp pre → Ix c pre L → Own w0 (L ++ (M ++ [blockT D (.deferred (some []))])) W → c.wpIn F n P Q { a with defers := { target := .collected D, args := #[] } :: a.defers } W) :
    (Code.rangeFunc g ps assign body).wpIn F n P Q a w := by
  refine wpIn_rangeFunc ?_
  intro fn hfn
  rw [hro]
  obtain ⟨rec, hrec⟩ : ∃ rec : LoopState → Option Code → Loop, rec = fun st pe => { state := st, pending := pe, fn, tmps := a.tmps, params := ps, assign, body, defers := w.heap.size } := ⟨_, rfl⟩
  obtain ⟨D, hD⟩ : ∃ D, D = w.heap.size := ⟨_, rfl⟩
  obtain ⟨l, hl⟩ : ∃ l, l = w.heap.size + 1 := ⟨_, rfl⟩
  obtain ⟨W1, hW1⟩ : ∃ W1, (w.alloc (.deferred (some []))).alloc (.loop (rec .ready none)) = W1 := ⟨_, rfl⟩
  have hA : Own w0 ([blockT l (.loop (rec .ready none)), blockT D (.deferred (some []))] ++ (L0 ++ T0)) W1 := by
    have := (hw.newBlk (.deferred (some []))).newBlk (.loop (rec .ready none))
    rw [World.size_alloc, hW1, ← hl, ← hD] at this
    exact Own.flip this
  have shift : ∀ {A B : Thing} {L T : List Thing} {W : World}, Own w0 (A :: B :: (L ++ T)) W → Own w0 (L ++ (T ++ [A] ++ [B])) W := by
    intro A B L T W h
    have := Own.swap [A, B] (L ++ T) h
    rw [List.append_assoc] at this
    rw [List.append_assoc]
    exact this
  refine ⟨l, [{ target := .collected D, args := #[] }], W1, { target := .fn (.func gf) lb, args := #[.func (.yield l) #[] #[]] }, W1, gf,
    #[.func (.yield l) #[] #[]] ++ lb, W1, ?_, ?_, ?_, ?_, fun _ => h1, ?_⟩
  · rw [← hW1, hrec, hl, hD]; exact run_enterLoop_outer _ _ _ _ _
  · simp only [resolve, hg]
    simp [go_sem]
  · intro f' hf'; simp [Target.leads] at hf'; subst hf'; exact hFg
  · simp [invoke, go_sem, eg]
  · refine (hseq l
      (fun pre Lm => ∃ L, Lm = blockT l (.loop (rec .ready none)) :: blockT D (.deferred (some [])) :: L ∧ I pre L)
      (fun pre Lm => ∃ c L, Lm = blockT l (.loop (rec .done (some c))) :: blockT D (.deferred (some [])) :: L ∧ Ix c pre L)
      (blockT l (.loop (rec .ready none)) :: blockT D (.deferred (some [])) :: L0) W1 hA ⟨L0, rfl, h0⟩ ?_).mono ?_
    · rintro pre x W Lm T ⟨L, rfl, hi⟩ hO hlen
      have hl' : W.heap[l]? = some (.loop (rec .ready none)) := hO.blk 0 rfl
      have hy := run_yield (P := P) (args := encs x) hl' (by rw [hrec]; exact hps x)
      rw [hrec] at hy
      refine ⟨fn, _, assign, body, hy, roundIn_of_wpIn hfn (wpIn_mono (hround l pre x W L hi hlen) ?_)⟩
      rintro ex a2 W' hex
      cases ex with
      | normal => ?_
      | ret => exact hex.elim
      | exit _ => exact hex.elim
      | goto _ => exact hex.elim
      | panic _ => exact hex.elim
      | outgrown => exact hex.elim
      obtain ⟨rfl, hbody⟩ := hex
      refine ⟨_, run_beginRound hl' (by rw [hrec]), ?_⟩
      have hO2 := hO.putBlk 0 rfl (.loop { rec .ready none with state := .busy })
      have hO3 : Own w0 (L ++ (T ++ [blockT l (.loop { rec .ready none with state := .busy }), blockT D (.deferred (some []))])) (W'.putObj l (.loop { rec .ready none with state := .busy })) := by
        have := Own.swap [blockT l (.loop { rec .ready none with state := .busy }), blockT D (.deferred (some []))] (L ++ T) hO2
        rw [List.append_assoc] at this
        exact this
      refine wpIn_mono (hbody _ _ hO3) ?_
      have fin : ∀ (jump : Option Code) (W3 : World) (L' : List Thing), Own w0 (L' ++ (T ++ [blockT l (.loop { rec .ready none with state := .busy }), blockT D (.deferred (some []))])) W3 →
          (Instr.endRound l jump).run P W3 = .ok (.bool jump.isNone) (W3.putObj l (.loop (rec (if jump.isNone then .ready else .done) jump))) ∧
          Own w0 (blockT l (.loop (rec (if jump.isNone then .ready else .done) jump)) :: blockT D (.deferred (some [])) :: (L' ++ T)) (W3.putObj l (.loop (rec (if jump.isNone then .ready else .done) jump))) := by
        intro jump W3 L' h3
        have h4 : Own w0 ([blockT l (.loop { rec .ready none with state := .busy }), blockT D (.deferred (some []))] ++ (L' ++ T)) W3 := by
          rw [← List.append_assoc] at h3
          exact Own.swap _ _ h3
        have hl3 : W3.heap[l]? = some (.loop { rec .ready none with state := .busy }) := h4.blk 0 rfl
        have hr := run_endRound (P := P) jump hl3
        rw [hrec] at hr ⊢
        refine ⟨hr, ?_⟩
        exact h4.putBlk 0 rfl _
      rintro e a3 W3 hp
      cases e with
      | normal =>
        obtain ⟨L', hi3, hO4⟩ := hp
        obtain ⟨hr, h5⟩ := fin none W3 L' hO4
        exact ⟨_, _, hr, .inl ⟨rfl, _, ⟨L', rfl, hi3⟩, h5⟩⟩
      | ret =>
        obtain ⟨L', hi3, hO4⟩ := hp
        obtain ⟨hr, h5⟩ := fin (some .ret) W3 L' hO4
        exact ⟨_, _, hr, .inr ⟨rfl, _, ⟨.ret, L', rfl, hi3⟩, h5⟩⟩
      | exit id =>
        obtain ⟨L', hi3, hO4⟩ := hp
        obtain ⟨hr, h5⟩ := fin (some (.exit id)) W3 L' hO4
        exact ⟨_, _, hr, .inr ⟨rfl, _, ⟨.exit id, L', rfl, hi3⟩, h5⟩⟩
      | goto t =>
        obtain ⟨L', hi3, hO4⟩ := hp
        obtain ⟨hr, h5⟩ := fin (some (.goto t)) W3 L' hO4
        exact ⟨_, _, hr, .inr ⟨rfl, _, ⟨.goto t, L', rfl, hi3⟩, h5⟩⟩
      | panic ch => exact hp.elim
      | outgrown => exact hp.elim
    · rintro e W2 ⟨⟨v, rfl⟩, (⟨xs, Lm', T, hS, ⟨L, rfl, hi⟩, hO⟩ | ⟨pre, Lm', T, hSp, ⟨c, L, rfl, hi⟩, hO⟩)⟩
      · have hl2 : W2.heap[l]? = some (.loop (rec .ready none)) := hO.blk 0 rfl
        refine ⟨none, _, by have := run_endLoop (P := P) hl2 (by rw [hrec]; simp); rw [hrec] at this; exact this, ?_⟩
        exact hdone D xs _ L (T ++ [blockT l _]) hS hi (shift (hO.putBlk 0 rfl _))
      · have hl2 : W2.heap[l]? = some (.loop (rec .done (some c))) := hO.blk 0 rfl
        refine ⟨some c, _, by have := run_endLoop (P := P) hl2 (by rw [hrec]; simp); rw [hrec] at this; exact this, ?_⟩
        exact hstop D c pre _ L (T ++ [blockT l _]) hSp hi (shift (hO.putBlk 0 rfl _))
end Go.Proofs.YtgnjakaamgeibaaGreatDoor
