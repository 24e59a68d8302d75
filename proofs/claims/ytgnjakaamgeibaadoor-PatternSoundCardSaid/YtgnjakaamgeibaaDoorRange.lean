/-
  The statement 'for x := range f' over a function: an iterator that keeps things of its own in memory, and a caller whose things lie apart from them. Conditions: none.
-/
import Derived.Test.YtgnjakaamgeibaaDoorOwn
import Derived.RangeFuncNested
import Derived.RangeFuncBound
import Derived.RangeFuncCalls
import Derived.RangeFuncLeaves
import Derived.Shelf.Abstract
import Derived.Shelf.RegionOpen
import Derived.WalkKit
import Derived.OwnWalkIn
import Derived.TacticsInMore
import Derived.LoopNIn
import Derived.LoopIn
namespace Go.Proofs.YtgnjakaamgeibaaDoor
open Go.RowKit

/-- A block, whatever it holds. -/
def blockT (x : Nat) (o : Obj) : Thing where
  P w F := w.heap[x]? = some o ∧ F = fun k => k = x
  stable w w' F G h hf hF := ⟨(hf.block x (Array.getElem?_eq_some_iff.1 h.1).1 (hF x (by rw [h.2]))).trans h.1, h.2⟩
  lt w F k h hk := by
    rw [h.2] at hk
    subst hk
    exact (Array.getElem?_eq_some_iff.1 h.1).1

theorem Own.blk {w0 w : World} {L : List Thing} (h : Own w0 L w) {x : Nat} {o : Obj} (i : Nat) (hi : L[i]? = some (blockT x o)) : w.heap[x]? = some o := by
  obtain ⟨F, hF⟩ := h.get hi
  exact hF.1
theorem Own.newBlk {w0 w : World} {L : List Thing} (h : Own w0 L w) (o : Obj) : Own w0 (L ++ [blockT w.heap.size o]) (w.alloc o) :=
  h.add (T := blockT w.heap.size o) ⟨World.alloc_heap_new w o, rfl⟩ ((Frm.refl _ _).alloc _) fun k hk => by subst hk; exact Nat.le_refl _
/-- A block is turned. -/
theorem Own.putBlk {w0 w : World} {L : List Thing} (h : Own w0 L w) {x : Nat} {o : Obj} (k : Nat) (hk : L[k]? = some (blockT x o)) (o' : Obj) : Own w0 (L.set k (blockT x o')) (w.putObj x o') := by
  obtain ⟨F, hT, _, ht⟩ := h.turn hk
  have hlt := (Array.getElem?_eq_some_iff.1 hT.1).1
  refine ht (blockT x o') F _ ⟨World.putObj_heap_same hlt, hT.2⟩ ⟨rfl, rfl, rfl, by simp, fun i _ hi => World.putObj_heap_other (fun e => hi (by rw [hT.2, e]))⟩ (Sub.refl _ _)

/-- Things in another order, or fewer of them. -/
theorem Own.reidx {w0 w : World} {L M : List Thing} (f : Nat → Nat) (hf : ∀ j U, M[j]? = some U → L[f j]? = some U) (hi : ∀ i j, i < M.length → j < M.length → f i = f j → i = j) (h : Own w0 L w) : Own w0 M w := by
  obtain ⟨F, h1, h2, h3⟩ := h.fp
  have key : ∀ j, j < M.length → f j < L.length := fun j hj => (List.getElem?_eq_some_iff.1 (hf j _ (List.getElem?_eq_getElem hj))).1
  exact ⟨h.frm, fun j => F (f j), fun j U hj => h1 _ U (hf j U hj), fun j k hj => h2 _ k (key j hj), fun i j k hi' hj' g1 g2 => hi i j hi' hj' (h3 _ _ k (key i hi') (key j hj') g1 g2)⟩
/-- The first things are put behind the others. -/
theorem Own.swap {w0 w : World} (L M : List Thing) (h : Own w0 (L ++ M) w) : Own w0 (M ++ L) w := by
  refine h.reidx (fun j => if j < M.length then j + L.length else j - M.length) (fun j U hj => ?_) (fun i j hi hj e => ?_)
  · have hlt := (List.getElem?_eq_some_iff.1 hj).1
    rw [List.length_append] at hlt
    by_cases e : j < M.length
    · rw [List.getElem?_append_left e] at hj
      rw [if_pos e, List.getElem?_append_right (by omega), Nat.add_sub_cancel]
      exact hj
    · rw [List.getElem?_append_right (by omega)] at hj
      rw [if_neg e, List.getElem?_append_left (by omega)]
      exact hj
  · rw [List.length_append] at hi hj
    by_cases e1 : i < M.length <;> by_cases e2 : j < M.length <;> simp only [e1, e2, if_true, if_false] at e <;> omega
/-- The last two things are put first, the last one before the other. -/
theorem Own.flip {w0 w : World} {L : List Thing} {A B : Thing} (h : Own w0 (L ++ [A] ++ [B]) w) : Own w0 (B :: A :: L) w := by
  refine h.reidx (fun j => if j = 0 then L.length + 1 else if j = 1 then L.length else j - 2) (fun j U hj => ?_) (fun i j hi hj e => ?_)
  · match j, hj with
    | 0, hj =>
      rw [if_pos rfl, List.getElem?_append_right (by simp)]
      simpa using hj
    | 1, hj =>
      rw [if_neg (by decide), if_pos rfl, List.append_assoc, List.getElem?_append_right (Nat.le_refl _)]
      simpa using hj
    | j + 2, hj =>
      have hj' : L[j]? = some U := hj
      rw [if_neg (by omega), if_neg (by omega), List.append_assoc, Nat.add_sub_cancel, List.getElem?_append_left (List.getElem?_eq_some_iff.1 hj').1]
      exact hj'
  · simp only [List.length_cons] at hi hj
    split at e <;> split at e <;> (try split at e) <;> (try split at e) <;> omega
/-- The last things are forgotten. -/
theorem Own.init {w0 w : World} {L : List Thing} (M : List Thing) (h : Own w0 (L ++ M) w) : Own w0 L w :=
  h.reidx id (fun j U hj => by rw [id, List.getElem?_append_left (List.getElem?_eq_some_iff.1 hj).1]; exact hj) (fun _ _ _ _ e => e)

/-- A cell of a thing is stored. -/
theorem Own.store {w0 w : World} {L : List Thing} (h : Own w0 L w) {x : Nat} {cs : Array Value} {t : TypeId} (k : Nat) (hk : L[k]? = some (cellT x cs t)) (i : Nat) (v : Value) : Own w0 (L.set k (cellT x (cs.setIfInBounds i v) t)) (w.setCell ⟨x, i, none⟩ v) := by
  obtain ⟨F, hT, _, ht⟩ := h.turn hk
  refine ht (cellT x (cs.setIfInBounds i v) t) F _ ⟨heap_set hT.1 v, hT.2⟩ ((Frm.refl _ _).setCell (.inl (by rw [hT.2])) _) (Sub.refl _ _)
theorem get_left {L : List Thing} (M : List Thing) {i : Nat} {T : Thing} (hi : L[i]? = some T) : (L ++ M)[i]? = some T := by
  rw [List.getElem?_append_left (List.getElem?_eq_some_iff.1 hi).1]
  exact hi

/-- 'append(s, x)' within a round, s a slice that owns its row. -/
theorem wpListIn_append_one {F : Fence} {n : Nat} {P : Program} {w : World} {ops : Array Oper} {rest : List Oper} {o : Oper} {a : Act} {Q : Exit → Act → World → Prop} (hgd : o.guard = none) (s x : Operand) (t : TypeId)
    (ho : o.op = .call { callee := .builtin .append, args := #[s, x], argTypes := #[t, t] }) (e : TypeId) (i : TypeInfo) (z : Value) (size bytes : Nat) (ht : P.underlying t = some (.slice e)) (hi : P.info? e = some i) (hz : i.zero = some z)
    (hsize : i.size = size) (hby : i.bytes = bytes) (hzs : z.cells.size = size) (hsz : 0 < size) (v : Value) (k : Nat) (xs : List Value) (hs : a.eval s = v) (hown : w.ownsRow 0 e size v k xs)
    (ad : Addr) (c : Nat) (news : List Value) (hx : a.eval x = .slice (some ad) 1 c) (hl : news.length = size) (hnews : ∀ j u, news[j]? = some u → w.cell? (ad.add j) = some u) (h1 : ∀ u ∈ news, u.oneCell' = true) (hbytes : (k + 1) * bytes ≤ 140737488355328) (hn : k + 1 ≤ maxLen)
    (h : ∀ g cap w', w'.ownsRow 0 e size (.slice (some ⟨g, 0, none⟩) (k + 1) cap) (k + 1) (xs ++ news) → Frm (Blk v) w w' → (Blk v g ∨ w.heap.size ≤ g) → wpListIn F n P ops Q rest (a.put o.dst (.slice (some ⟨g, 0, none⟩) (k + 1) cap)) w') : wpListIn F n P ops Q (o :: rest) a w := by
  refine wpListIn_plain hgd fun K hK' => ?_
  obtain ⟨g, cap, w', hr, r1, r2, r3⟩ := run_append_one (P := P) (w := w) t o.type e i z size bytes ht hi hz hsize hby hzs hsz v k xs hown ad c news hl hnews h1 hbytes hn
  unfold Oper.wpIn
  refine ⟨?_, ?_⟩
  · simp [Oper.about, ho, resolve, Target.leads, Sem.run_pure]
  · rw [Oper.semAt_plain F _ _ (by rw [ho]; intro c hc'; cases hc')]
    simp [execOp, ho, resolve, invoke, builtin, hs, hx, hr, Result.andThen]
    exact hK' _ _ (h g cap w' r1 r2 r3)

/-- AN ITERATOR's CONTRACT: it keeps the things T0 (which it may turn between two rounds); the others are the caller's. S: all that comes; Sp: what may have come when a round says 'no more'; V: what may come behind what has come. -/
def IterOwn {α : Type} (F : Fence) (n : Nat) (P : Program) (g : Nat) (lb : Array Value) (encs : α → Array Value) (T0 : List Thing) (S Sp : List α → Prop) (V : List α → α → Prop) : Prop :=
  ∀ (l : Nat) (w0 : World) (M Mx : List α → List Thing → Prop) (Lm : List Thing) (W : World), Own w0 (Lm ++ T0) W → M [] Lm →
    (∀ pre x W1 Lm T, M pre Lm → Own w0 (Lm ++ T) W1 → V pre x → YieldAt F (n - 1) P l (encs x) W1 fun e W' =>
      (e = .returned (.bool true) ∧ ∃ Lm', M (pre ++ [x]) Lm' ∧ Own w0 (Lm' ++ T) W') ∨ (e = .returned (.bool false) ∧ ∃ Lm', Mx (pre ++ [x]) Lm' ∧ Own w0 (Lm' ++ T) W')) →
    CallsIn F n P g (#[.func (.yield l) #[] #[]] ++ lb) W fun e W' => (∃ v, e = .returned v) ∧
      ((∃ xs Lm' T, S xs ∧ M xs Lm' ∧ Own w0 (Lm' ++ T) W') ∨ (∃ pre Lm' T, Sp pre ∧ Mx pre Lm' ∧ Own w0 (Lm' ++ T) W'))

/-- How the body of a round may be left. -/
def outOwn {α : Type} (w0 : World) (M : List Thing) (I : List α → List Thing → Prop) (Ix : Code → List α → List Thing → Prop) (xs : List α) : Exit → Act → World → Prop
  | .normal, _, W' => ∃ L', I xs L' ∧ Own w0 (L' ++ M) W'
  | .ret, _, W' => ∃ L', Ix .ret xs L' ∧ Own w0 (L' ++ M) W'
  | .exit id, _, W' => ∃ L', Ix (.exit id) xs L' ∧ Own w0 (L' ++ M) W'
  | .goto t, _, W' => ∃ L', Ix (.goto t) xs L' ∧ Own w0 (L' ++ M) W'
  | .panic _, _, _ => False
  | .outgrown, _, _ => False

variable {F : Fence} {n : Nat} {P : Program}

/-- A RANGE OVER AN ITERATOR THAT HAS ITS CONTRACT. -/
theorem wpIn_range_own {α : Type} {g : Operand} {ps : Array Tmp} {assign body : Code} {Q : Exit → Act → World → Prop} {a : Act} {w : World}
    (hro : F.round = none) (h1 : 1 ≤ n) {gf : Nat} {lb : Array Value} (hg : a.eval g = .func (.func gf) #[] lb) (hFg : F.fn gf) (eg : ∀ args w, (callFunc gf args).run P w = .ok (.enter gf args) w)
    {encs : α → Array Value} {T0 : List Thing} {S Sp : List α → Prop} {V : List α → α → Prop} (hseq : IterOwn F (n - 1) P gf lb encs T0 S Sp V) (hps : ∀ x, (encs x).size = ps.size)
    (w0 : World) (I : List α → List Thing → Prop) (Ix : Code → List α → List Thing → Prop) (L0 : List Thing) (hw : Own w0 (L0 ++ T0) w) (h0 : I [] L0)
    (hround : ∀ (l : Nat) (pre : List α) (x : α) (W : World) (L : List Thing), I pre L → V pre x →
      assign.wpIn (F.inRound l) (n - 1 - 1) P (Exit.then (fun a' W' => W' = W ∧ ∀ (M : List Thing) (W2 : World), Own w0 (L ++ M) W2 → body.wpIn (F.inRound l) (n - 1 - 1) P (outOwn w0 M I Ix (pre ++ [x])) a' W2) (fun _ _ _ => False)) { tmps := (ps.zip (encs x)).foldl (fun t (p, v) => t.setIfInBounds p v) a.tmps, defers := [] } W)
    (hdone : ∀ (D : Nat) (xs : List α) (W : World) (L M : List Thing), S xs → I xs L → Own w0 (L ++ (M ++ [blockT D (.deferred (some []))])) W → Q .normal { a with defers := { target := .collected D, args := #[] } :: a.defers } W)
    (hstop : ∀ (D : Nat) (c : Code) (pre : List α) (W : World) (L M : List Thing), Sp pre → Ix c pre L → Own w0 (L ++ (M ++ [blockT D (.deferred (some []))])) W → c.wpIn F n P Q { a with defers := { target := .collected D, args := #[] } :: a.defers } W) :
    (Code.rangeFunc g ps assign body).wpIn F n P Q a w := by
  refine wpIn_rangeFunc ?_
  intro fn hfn
  rw [hro]
  obtain ⟨rec, hrec⟩ : ∃ rec : LoopState → Option Code → Loop, rec = fun st pe => { state := st, pending := pe, fn, tmps := a.tmps, params := ps, assign, body, defers := w.heap.size } := ⟨_, rfl⟩
  obtain ⟨D, hD⟩ : ∃ D, D = w.heap.size := ⟨_, rfl⟩
  obtain ⟨l, hl⟩ : ∃ l, l = w.heap.size + 1 := ⟨_, rfl⟩
  obtain ⟨W1, hW1⟩ : ∃ W1, (w.alloc (.deferred (some []))).alloc (.loop (rec .ready none)) = W1 := ⟨_, rfl⟩
  have hA : Own w0 ([blockT l (.loop (rec .ready none)), blockT D (.deferred (some []))] ++ (L0 ++ T0)) W1 := by
    have := (hw.newBlk (.deferred (some []))).newBlk (.loop (rec .ready none))
    rw [World.size_alloc, hW1, ← hl, ← hD] at this
    exact Own.flip this
  have shift : ∀ {A B : Thing} {L T : List Thing} {W : World}, Own w0 (A :: B :: (L ++ T)) W → Own w0 (L ++ (T ++ [A] ++ [B])) W := by
    intro A B L T W h
    have := Own.swap [A, B] (L ++ T) h
    rw [List.append_assoc] at this
    rw [List.append_assoc]
    exact this
  refine ⟨l, [{ target := .collected D, args := #[] }], W1, { target := .fn (.func gf) lb, args := #[.func (.yield l) #[] #[]] }, W1, gf,
    #[.func (.yield l) #[] #[]] ++ lb, W1, ?_, ?_, ?_, ?_, fun _ => h1, ?_⟩
  · rw [← hW1, hrec, hl, hD]; exact run_enterLoop_outer _ _ _ _ _
  · simp only [resolve, hg]
    simp [go_sem]
  · intro f' hf'; simp [Target.leads] at hf'; subst hf'; exact hFg
  · simp [invoke, go_sem, eg]
  · refine (hseq l w0
      (fun pre Lm => ∃ L, Lm = blockT l (.loop (rec .ready none)) :: blockT D (.deferred (some [])) :: L ∧ I pre L)
      (fun pre Lm => ∃ c L, Lm = blockT l (.loop (rec .done (some c))) :: blockT D (.deferred (some [])) :: L ∧ Ix c pre L)
      (blockT l (.loop (rec .ready none)) :: blockT D (.deferred (some [])) :: L0) W1 hA ⟨L0, rfl, h0⟩ ?_).mono ?_
    · rintro pre x W Lm T ⟨L, rfl, hi⟩ hO hlen
      have hl' : W.heap[l]? = some (.loop (rec .ready none)) := hO.blk 0 rfl
      have hy := run_yield (P := P) (args := encs x) hl' (by rw [hrec]; exact hps x)
      rw [hrec] at hy
      refine ⟨fn, _, assign, body, hy, roundIn_of_wpIn hfn (wpIn_mono (hround l pre x W L hi hlen) ?_)⟩
      rintro ex a2 W' hex
      cases ex with
      | normal => ?_
      | ret => exact hex.elim
      | exit _ => exact hex.elim
      | goto _ => exact hex.elim
      | panic _ => exact hex.elim
      | outgrown => exact hex.elim
      obtain ⟨rfl, hbody⟩ := hex
      refine ⟨_, run_beginRound hl' (by rw [hrec]), ?_⟩
      have hO2 := hO.putBlk 0 rfl (.loop { rec .ready none with state := .busy })
      have hO3 : Own w0 (L ++ (T ++ [blockT l (.loop { rec .ready none with state := .busy }), blockT D (.deferred (some []))])) (W'.putObj l (.loop { rec .ready none with state := .busy })) := by
        have := Own.swap [blockT l (.loop { rec .ready none with state := .busy }), blockT D (.deferred (some []))] (L ++ T) hO2
        rw [List.append_assoc] at this
        exact this
      refine wpIn_mono (hbody _ _ hO3) ?_
      have fin : ∀ (jump : Option Code) (W3 : World) (L' : List Thing), Own w0 (L' ++ (T ++ [blockT l (.loop { rec .ready none with state := .busy }), blockT D (.deferred (some []))])) W3 →
          (Instr.endRound l jump).run P W3 = .ok (.bool jump.isNone) (W3.putObj l (.loop (rec (if jump.isNone then .ready else .done) jump))) ∧
          Own w0 (blockT l (.loop (rec (if jump.isNone then .ready else .done) jump)) :: blockT D (.deferred (some [])) :: (L' ++ T)) (W3.putObj l (.loop (rec (if jump.isNone then .ready else .done) jump))) := by
        intro jump W3 L' h3
        have h4 : Own w0 ([blockT l (.loop { rec .ready none with state := .busy }), blockT D (.deferred (some []))] ++ (L' ++ T)) W3 := by
          rw [← List.append_assoc] at h3
          exact Own.swap _ _ h3
        have hl3 : W3.heap[l]? = some (.loop { rec .ready none with state := .busy }) := h4.blk 0 rfl
        have hr := run_endRound (P := P) jump hl3
        rw [hrec] at hr ⊢
        refine ⟨hr, ?_⟩
        exact h4.putBlk 0 rfl _
      rintro e a3 W3 hp
      cases e with
      | normal =>
        obtain ⟨L', hi3, hO4⟩ := hp
        obtain ⟨hr, h5⟩ := fin none W3 L' hO4
        exact ⟨_, _, hr, .inl ⟨rfl, _, ⟨L', rfl, hi3⟩, h5⟩⟩
      | ret =>
        obtain ⟨L', hi3, hO4⟩ := hp
        obtain ⟨hr, h5⟩ := fin (some .ret) W3 L' hO4
        exact ⟨_, _, hr, .inr ⟨rfl, _, ⟨.ret, L', rfl, hi3⟩, h5⟩⟩
      | exit id =>
        obtain ⟨L', hi3, hO4⟩ := hp
        obtain ⟨hr, h5⟩ := fin (some (.exit id)) W3 L' hO4
        exact ⟨_, _, hr, .inr ⟨rfl, _, ⟨.exit id, L', rfl, hi3⟩, h5⟩⟩
      | goto t =>
        obtain ⟨L', hi3, hO4⟩ := hp
        obtain ⟨hr, h5⟩ := fin (some (.goto t)) W3 L' hO4
        exact ⟨_, _, hr, .inr ⟨rfl, _, ⟨.goto t, L', rfl, hi3⟩, h5⟩⟩
      | panic ch => exact hp.elim
      | outgrown => exact hp.elim
    · rintro e W2 ⟨⟨v, rfl⟩, (⟨xs, Lm', T, hS, ⟨L, rfl, hi⟩, hO⟩ | ⟨pre, Lm', T, hSp, ⟨c, L, rfl, hi⟩, hO⟩)⟩
      · have hl2 : W2.heap[l]? = some (.loop (rec .ready none)) := hO.blk 0 rfl
        refine ⟨none, _, by have := run_endLoop (P := P) hl2 (by rw [hrec]; simp); rw [hrec] at this; exact this, ?_⟩
        exact hdone D xs _ L (T ++ [blockT l _]) hS hi (shift (hO.putBlk 0 rfl _))
      · have hl2 : W2.heap[l]? = some (.loop (rec .done (some c))) := hO.blk 0 rfl
        refine ⟨some c, _, by have := run_endLoop (P := P) hl2 (by rw [hrec]; simp); rw [hrec] at this; exact this, ?_⟩
        exact hstop D c pre _ L (T ++ [blockT l _]) hSp hi (shift (hO.putBlk 0 rfl _))
theorem Own.tail {w0 w : World} {L : List Thing} {T : Thing} (h : Own w0 (T :: L) w) : Own w0 L w := h.reidx (fun a => a + 1) (fun _ _ ha => ha) (fun _ _ _ _ e => by omega)
/-- The last thing takes another's place. -/
theorem Own.place {w0 w : World} {L : List Thing} {T : Thing} (h : Own w0 (L ++ [T]) w) (q : Nat) (hq : q < L.length) : Own w0 (L.set q T) w := by
  refine h.reidx (fun j => if j = q then L.length else j) (fun j U hj => ?_) (fun a b ha hb e => ?_)
  · by_cases e : j = q
    · subst e
      rw [List.getElem?_set_self hq] at hj
      rw [if_pos rfl, List.getElem?_append_right (Nat.le_refl _), Nat.sub_self]
      exact hj
    · rw [List.getElem?_set_ne (fun e' => e e'.symm)] at hj
      rw [if_neg e, List.getElem?_append_left (List.getElem?_eq_some_iff.1 hj).1]
      exact hj
  · rw [List.length_set] at ha hb
    split at e <;> split at e <;> omega
end Go.Proofs.YtgnjakaamgeibaaDoor
