/-
  Pieces that are made wider: what covers them, and how they lie in memory. Conditions: none.
-/
import Derived.Test.YtgnjakaamgeibaaDoorApp
import Derived.Test.YtgnjakaamgeibaaDoorPcs
import Derived.Test.YtgnjakaamgeibaaDoorFnd
namespace Go.Proofs.YtgnjakaamgeibaaDoor
open Go.RowKit

/-- One piece, wider by k. -/
def widP (k : Int) (p : Pc) : Pc := if p.cls = 0 then p else ⟨if 0 < k then 7 else p.cls, max (p.lo - k) 0, min (p.hi + k) 200, p.txt⟩
def widF (f : Nat → Int) : Nat → List Pc → List Pc
  | _, [] => []
  | j, p :: r => widP (f j) p :: widF f (j + 1) r
theorem widF_len (f : Nat → Int) : ∀ (j : Nat) (ps : List Pc), (widF f j ps).length = ps.length
  | _, [] => rfl
  | j, _ :: r => by rw [widF, List.length_cons, List.length_cons, widF_len f (j + 1) r]
theorem widF_snoc (f : Nat → Int) : ∀ (j : Nat) (ps : List Pc) (p : Pc), widF f j (ps ++ [p]) = widF f j ps ++ [widP (f (j + ps.length)) p]
  | _, [], _ => rfl
  | j, a :: r, p => by
    rw [List.cons_append, widF, widF_snoc f (j + 1) r p, widF, List.length_cons, show j + 1 + r.length = j + (r.length + 1) by omega]
    rfl
theorem widP_txt (k : Int) (p : Pc) : (widP k p).txt = p.txt := by unfold widP; split <;> rfl
theorem widP_cov {k : Int} {p : Pc} (hk : 0 ≤ k) (h : pieceB p = true) : covP (widP k p) p = true := by
  by_cases hc : p.cls = 0
  · rw [show widP k p = p by unfold widP; rw [if_pos hc]]
    exact covP_self h
  · unfold pieceB at h
    rw [if_neg hc] at h
    simp only [Bool.and_eq_true, decide_eq_true_eq] at h
    obtain ⟨⟨⟨⟨⟨⟨h1, h2⟩, h3⟩, h4⟩, h5⟩, h6⟩, h7⟩ := h
    unfold widP
    rw [if_neg hc]
    unfold covP
    simp only
    by_cases hk0 : 0 < k
    · rw [if_pos hk0, if_neg (by omega), if_neg hc]
      simp only [Bool.and_eq_true, decide_eq_true_eq]
      refine ⟨⟨?_, by omega⟩, by omega⟩
      unfold insB
      simp
    · rw [if_neg hk0, if_neg hc, if_neg hc]
      simp only [Bool.and_eq_true, decide_eq_true_eq]
      exact ⟨⟨ins_self _, by omega⟩, by omega⟩
theorem widF_cov {f : Nat → Int} (hf : ∀ j, 0 ≤ f j) : ∀ {j : Nat} {ps : List Pc}, (∀ p ∈ ps, pieceB p = true) → covE (widF f j ps) ps = true
  | _, [], _ => rfl
  | j, p :: r, h => by
    rw [widF, covE, widP_cov (hf j) (h p (by simp)), widF_cov hf (fun x hx => h x (by simp [hx]))]
    rfl
/-- The list after i steps. -/
def widN (f : Nat → Int) (ps : List Pc) (i : Nat) : List Pc := widF f 0 (ps.take i) ++ ps.drop i
theorem widN_zero (f : Nat → Int) (ps : List Pc) : widN f ps 0 = ps := by unfold widN; rw [List.take_zero, List.drop_zero]; rfl
theorem widN_all (f : Nat → Int) (ps : List Pc) : widN f ps ps.length = widF f 0 ps := by unfold widN; rw [List.take_length, List.drop_length, List.append_nil]
theorem widN_len (f : Nat → Int) (ps : List Pc) {i : Nat} (h : i ≤ ps.length) : (widN f ps i).length = ps.length := by
  unfold widN
  rw [List.length_append, widF_len, List.length_take, List.length_drop]
  omega
theorem widN_at {f : Nat → Int} {ps : List Pc} {i : Nat} (h : i < ps.length) : (widN f ps i)[i]'(by rw [widN_len f ps (by omega)]; exact h) = ps[i] := by
  have hl : (widF f 0 (ps.take i)).length = i := by rw [widF_len, List.length_take]; omega
  simp only [widN]
  rw [List.getElem_append_right (by omega), List.getElem_drop]
  congr 1
  omega
theorem widN_succ {f : Nat → Int} {ps : List Pc} {i : Nat} (h : i < ps.length) : widN f ps (i + 1) = (widN f ps i).set i (widP (f i) ps[i]) := by
  have hl : (widF f 0 (ps.take i)).length = i := by rw [widF_len, List.length_take]; omega
  have hd : ps.drop i = ps[i] :: ps.drop (i + 1) := List.drop_eq_getElem_cons h
  unfold widN
  rw [List.set_append_right _ _ (by omega), hl, Nat.sub_self, hd, List.set_cons_zero, List.take_succ_eq_append_getElem h, widF_snoc, List.length_take, Nat.min_eq_left (by omega), Nat.zero_add, List.append_assoc, List.singleton_append]
theorem wid_small {f : Nat → Int} {ps : List Pc} (h : Small ps) : Small (widF f 0 ps) := by
  have key : ∀ (j : Nat) (ps : List Pc), Small ps → Small (widF f j ps) := by
    intro j ps
    induction ps generalizing j with
    | nil => intro _ p hp; cases hp
    | cons a r ih =>
      intro h p hp
      rw [widF] at hp
      rcases List.mem_cons.1 hp with rfl | hp
      · rw [widP_txt]; exact h a (by simp)
      · exact ih (j + 1) (fun x hx => h x (by simp [hx])) p hp
  exact key 0 ps h
/-- A pattern that is printed and was made wider covers it. -/
theorem wid_covers {f : Nat → Int} {ps : List Pc} (hf : ∀ j, 0 ≤ f j) (h : rightB ps = true) (hw : rightB (widF f 0 ps) = true) : coversB (widF f 0 ps) ps = true := by
  unfold coversB
  rw [h, hw, widF_cov hf (right_mem h)]
  rfl
theorem printed_right {ps : List Pc} (h : (printL ps).isEmpty = false) : rightB ps = true := by
  unfold printL at h
  cases hr : rightB ps
  · rw [hr] at h; cases h
  · rfl

/-! ### In memory -/
theorem pcC_set : ∀ (ps : List Pc) (i j : Nat) (p : Pc) (u : Value) (hi : i < ps.length) (_hj : j < 4), (pcC ps[i]).set j u = pcC p → (ps.flatMap pcC).set (i * 4 + j) u = (ps.set i p).flatMap pcC
  | a :: r, 0, j, p, u, _, hj, h => by
    rw [List.flatMap_cons, List.set_append_left _ _ (by show 0 * 4 + j < 4; omega), List.set_cons_zero, List.flatMap_cons, ← h]
    simp
  | a :: r, i + 1, j, p, u, hi, hj, h => by
    rw [List.flatMap_cons, List.set_append_right _ _ (by show 4 ≤ (i + 1) * 4 + j; omega), List.set_cons_succ, List.flatMap_cons]
    rw [show (i + 1) * 4 + j - (pcC a).length = i * 4 + j by show (i + 1) * 4 + j - 4 = _; omega, pcC_set r i j p u (by simpa using hi) hj (by simpa using h)]
theorem Pcs.set {w : World} {g n cap : Nat} {ps : List Pc} (h : Pcs w (.slice (some ⟨g, 0, none⟩) n cap) ps) {i j : Nat} (hi : i < ps.length) (hj : j < 4) {p : Pc} {u : Value} (hp : (pcC ps[i]).set j u = pcC p) :
    Pcs (w.setCell ⟨g, i * 4 + j, none⟩ u) (.slice (some ⟨g, 0, none⟩) n cap) (ps.set i p) := by
  have hlen : (ps.flatMap pcC).length = ps.length * 4 := by rw [h.1]
  rcases h.2 with ⟨hv, h0⟩ | ⟨g', cap', cur, hv, hb, hg, h1, h2, h3, h4⟩
  · cases hv
  · cases hv
    refine ⟨?_, .inr ⟨g, cap, _, by rw [List.length_set], hb, heap_set hg u, by rw [List.length_set]; exact h1, h2, by rw [Array.size_setIfInBounds]; exact h3, ?_⟩⟩
    · rw [← pcC_set ps i j p u hi hj hp, List.length_set, List.length_set]
      exact hlen
    · rw [List.length_set, Array.toList_setIfInBounds, ← pcC_set ps i j p u hi hj hp, ← h4, List.take_set]
theorem Pcs.cells {w : World} {g n cap : Nat} {ps : List Pc} (h : Pcs w (.slice (some ⟨g, 0, none⟩) n cap) ps) {i : Nat} (hi : i < ps.length) : PcAt w g (i * 4) ps[i] ∧ ∀ o, w.frozen? ⟨g, o, none⟩ = false := by
  obtain ⟨g', cap', hv, h2, -⟩ := h.cell i hi
  rcases h.2 with ⟨hv2, h0⟩ | ⟨g2, cap2, cur, hv2, hb, hg, -⟩
  · cases hv2
  · cases hv
    cases hv2
    exact ⟨h2, fun o => frozen_of_row _ _ _ _ _ hg⟩
theorem Pcs.cells_set {w : World} {g n cap i : Nat} {L : List Pc} {p : Pc} (h : Pcs w (.slice (some ⟨g, 0, none⟩) n cap) (L.set i p)) (hi : i < L.length) : PcAt w g (i * 4) p ∧ ∀ o, w.frozen? ⟨g, o, none⟩ = false := by
  have := h.cells (i := i) (by rw [List.length_set]; exact hi)
  rw [List.getElem_set_self] at this
  exact this
theorem Pcs.store_set {w : World} {g n cap i j : Nat} {L : List Pc} {p p' : Pc} {u : Value} (h : Pcs w (.slice (some ⟨g, 0, none⟩) n cap) (L.set i p)) (hi : i < L.length) (hj : j < 4) (hp : (pcC p).set j u = pcC p') :
    Pcs (w.setCell ⟨g, i * 4 + j, none⟩ u) (.slice (some ⟨g, 0, none⟩) n cap) (L.set i p') := by
  have := h.set (i := i) (j := j) (p := p') (u := u) (by rw [List.length_set]; exact hi) hj (by rw [List.getElem_set_self]; exact hp)
  rw [List.set_set] at this
  exact this
theorem wid_open {f : Nat → Int} {ps : List Pc} {i : Nat} (h : i < ps.length) : (widN f ps i).set i ps[i] = widN f ps i := by
  have := @List.set_getElem_self _ (widN f ps i) i (by rw [widN_len f ps (by omega)]; exact h)
  rw [widN_at h] at this
  exact this
/-- 'append([]Piece{}, q...)'. -/
theorem wpList_copy_pieces {ops : Array Oper} {rest : List Oper} {o : Oper} {a : Act} {w : World} {Q : Exit → Act → World → Prop} (hgd : o.guard = none) (s x : Operand)
    (ho : o.op = .call { callee := .builtin .append, args := #[s, x], argTypes := #[46, 46] }) {qs : List Pc} {v : Value} {b : Nat} (hx : a.eval x = v) (hs : a.eval s = .slice (some ⟨b, 0, none⟩) 0 0) (hQ : Pcs w v qs) (hb : w.heap[b]? = some (.cells #[] 53 (0, 0))) (hn : qs.length ≤ 1000)
    (h : ∀ g cap w', Pcs w' (.slice (some ⟨g, 0, none⟩) qs.length cap) qs → Frm (fun k => k = b) w w' → (g = b ∨ w.heap.size ≤ g) → wpList Tryd.prog ops Q rest (a.put o.dst (.slice (some ⟨g, 0, none⟩) qs.length cap)) w') : wpList Tryd.prog ops Q (o :: rest) a w := by
  obtain ⟨i0, hi0, hz0, hz1, hz2⟩ := pc_info
  have hown : w.ownsRow 0 53 4 (.slice (some ⟨b, 0, none⟩) 0 0) 0 [] := ⟨rfl, .inr ⟨b, 0, #[], rfl, Nat.zero_le _, hb, Nat.le_refl _, Nat.zero_le _, rfl, rfl⟩⟩
  have hnil : ∀ y : Value, Src Tryd.prog i0.size 46 y 0 [] w → (Builtin.append_ #[46, 46] o.type #[.slice (some ⟨b, 0, none⟩) 0 0, y]).run Tryd.prog w = .ok (.slice (some ⟨b, 0, none⟩) 0 0) w := fun y hy =>
    run_append_room_src (P := Tryd.prog) w 46 46 o.type 53 i0 Tryd.underlying46 hi0 b 0 0 0 y 0 [] hy (Nat.le_refl _) (fun j hj => by cases hj) (fun j hj => by cases hj)
  rcases hQ.2 with ⟨rfl, h0⟩ | ⟨g, cap, cur, rfl, hbg, hg, h1, h2, h3, h4⟩
  · have hq0 : qs = [] := List.eq_nil_of_length_eq_zero h0
    subst hq0
    exact Lib.wpList_append_run w hgd s x 46 46 ho _ _ hs hx (.slice (some ⟨b, 0, none⟩) 0 0) w (hnil _ (Src.ofNil w Tryd.underlying46 0)) (h b 0 w hown (Frm.refl _ _) (.inl rfl))
  · by_cases h0 : qs.length = 0
    · have hq0 : qs = [] := List.eq_nil_of_length_eq_zero h0
      subst hq0
      exact Lib.wpList_append_run w hgd s x 46 46 ho _ _ hs hx (.slice (some ⟨b, 0, none⟩) 0 0) w (hnil _ (Src.ofSlice w Tryd.underlying46 ⟨g, 0, none⟩ 0 cap [] (Nat.zero_mul _).symm (fun j u hj => by simp at hj) (fun u hu => by cases hu))) (h b 0 w hown (Frm.refl _ _) (.inl rfl))
    · obtain ⟨g2, cap2, w', hr, k1, k2, k3⟩ := run_append_many (P := Tryd.prog) (w := w) 46 o.type 53 i0 _ 4 40 Tryd.underlying46 hi0 hz0 hz1 hz2 rfl (by decide) _ 0 [] hown ⟨g, 0, none⟩ qs.length cap (by omega) (qs.flatMap pcC) hQ.1
        (fun j u hj => World.ownsRow.cells (hQ : w.ownsRow 0 53 4 _ _ _) (g := g) rfl j u hj) (fun u hu => by
          obtain ⟨p, -, hp⟩ := List.mem_flatMap.1 hu
          unfold pcC at hp
          simp at hp
          rcases hp with rfl | rfl | rfl | rfl <;> rfl) (by omega) (by unfold maxLen; omega)
      rw [Nat.zero_add] at hr k1
      exact Lib.wpList_append_run w hgd s x 46 46 ho _ _ hs hx _ _ hr (h g2 cap2 w' k1 (k2.mono fun k hk => Blk.some.1 hk) (k3.imp Blk.some.1 id))
end Go.Proofs.YtgnjakaamgeibaaDoor
