/-
  Pieces: what asks one piece, and lists of pieces in memory. Conditions: the strings are within reach.
-/
import Derived.Test.YtgnjakaamgeibaaGreatDoorChr
import Derived.Test.YtgnjakaamgeibaaGreatDoorRange
namespace Go.Proofs.YtgnjakaamgeibaaGreatDoor
open Go.RowKit Go.Shelf
attribute [local go_sem] Oper.semAt_some
def pcC (p : Pc) : List Value := [.int .i64 p.cls, .int .i64 p.lo, .int .i64 p.hi, .string p.txt]
def pcV (p : Pc) : Value := .agg #[.int .i64 p.cls, .int .i64 p.lo, .int .i64 p.hi, .string p.txt]
theorem emp_str (s : ByteArray) : (s.toList == []) = s.data.toList.isEmpty ∧ s.toList.isEmpty = s.data.toList.isEmpty := by
  rw [toList_data]
  cases s.data.toList with
  | nil => exact ⟨rfl, rfl⟩
  | cons a l => exact ⟨rfl, rfl⟩
set_option maxRecDepth 100000 in
set_option maxHeartbeats 2000000 in
theorem rightPiece_any (p : Pc) (hs : p.txt.size ≤ 9223372036854775807) (w : World) : Calls Tryz.prog 83 #[pcV p] w fun e w' => e = .returned (.bool (pieceB p)) ∧ Frm (fun _ => False) w w' := by
  obtain ⟨c, l, h, t⟩ := p
  unfold pcV pieceB Pc.t
  simp only at hs ⊢
  obtain ⟨e1, e2⟩ := emp_str t
  by_cases hc : c = 0
  · subst hc
    rw [if_pos rfl]
    by_cases hl : l = 0
    · subst hl
      by_cases hh : h = 0
      · subst hh
        cases ht : t.data.toList.isEmpty
        · rw [ht] at e1 e2
          have e3 : (t.toList != []) = true := by rw [bne, e1]; rfl
          have Ht := Lib.hid ht
          clear ht
          go_enter Tryz.func83, Tryz.ntmps83
          go_wp2_with fail
          refine (characters_any t hs _).mono ?_
          rintro e w1 ⟨rfl, rfl⟩
          go_wp2_with fail
          go_ret
          exact ⟨by simp, (Frm.refl _ _).alloc _⟩
        · rw [ht] at e1 e2
          have e3 : (t.toList != []) = false := by rw [bne, e1]; rfl
          have Ht := Lib.hid ht
          clear ht
          go_enter Tryz.func83, Tryz.ntmps83
          go_wp2_with fail
          go_ret
          exact ⟨by simp, (Frm.refl _ _).alloc _⟩
      · have h1 : (h == 0) = false := by rw [beq_eq_false_iff_ne]; exact hh
        go_enter Tryz.func83, Tryz.ntmps83
        go_wp2_with fail
        go_ret
        exact ⟨by simp [hh], (Frm.refl _ _).alloc _⟩
    · have h1 : (l == 0) = false := by rw [beq_eq_false_iff_ne]; exact hl
      go_enter Tryz.func83, Tryz.ntmps83
      go_wp2_with fail
      go_ret
      exact ⟨by simp [hl], (Frm.refl _ _).alloc _⟩
  · rw [if_neg hc]
    have h0 : (c == 0) = false := by rw [beq_eq_false_iff_ne]; exact hc
    by_cases h1 : 1 ≤ c
    · by_cases h7 : c ≤ 7
      · cases ht : t.data.toList.isEmpty
        · rw [ht] at e1 e2
          have e3 : (t.toList != []) = true := by rw [bne, e1]; rfl
          have Ht := Lib.hid ht
          clear ht
          go_enter Tryz.func83, Tryz.ntmps83
          go_wp2_with fail
          go_ret
          exact ⟨by simp, (Frm.refl _ _).alloc _⟩
        · rw [ht] at e1 e2
          have e3 : (t.toList != []) = false := by rw [bne, e1]; rfl
          have Ht := Lib.hid ht
          clear ht
          go_enter Tryz.func83, Tryz.ntmps83
          go_wp2_with fail
          all_goals go_ret
          all_goals exact ⟨ret_bool (by rw [Bool.eq_iff_iff]; simp; try omega), (Frm.refl _ _).alloc _⟩
      · go_enter Tryz.func83, Tryz.ntmps83
        go_wp2_with fail
        go_ret
        exact ⟨ret_bool (by rw [Bool.eq_iff_iff]; simp; intros; omega), (Frm.refl _ _).alloc _⟩
    · go_enter Tryz.func83, Tryz.ntmps83
      go_wp2_with fail
      go_ret
      exact ⟨ret_bool (by rw [Bool.eq_iff_iff]; simp; intros; omega), (Frm.refl _ _).alloc _⟩
def Pcs (w : World) (v : Value) (ps : List Pc) : Prop := w.ownsRow 0 66 4 v ps.length (ps.flatMap pcC)
theorem pcC_at : ∀ (ps : List Pc) (k j : Nat) (hk : k < ps.length) (_hj : j < 4), (ps.flatMap pcC)[k * 4 + j]? = (pcC ps[k])[j]?
  | [], k, j, hk, _ => absurd hk (Nat.not_lt_zero _)
  | p :: ps, 0, j, _, hj => by
    rw [List.flatMap_cons, List.getElem?_append_left (by show 0 * 4 + j < 4; omega)]
    simp
  | p :: ps, k + 1, j, hk, hj => by
    rw [List.flatMap_cons, List.getElem?_append_right (by show 4 ≤ (k + 1) * 4 + j; omega)]
    have := pcC_at ps k j (by simpa using hk) hj
    rw [show (k + 1) * 4 + j - (pcC p).length = k * 4 + j by show (k + 1) * 4 + j - 4 = _; omega, this]
    rfl
theorem Pcs.frm {w w' : World} {v : Value} {l : List Pc} {F : Nat → Prop} (h : Pcs w v l) (hf : Frm F w w') (hF : ∀ k, Blk v k → ¬ F k) : Pcs w' v l := ownsRow_frm h hf hF
theorem Pcs.still {w w' : World} {v : Value} {l : List Pc} (h : Pcs w v l) (hf : Frm (fun _ => False) w w') : Pcs w' v l := h.frm hf fun _ _ h => h
theorem Pcs.form {w : World} {v : Value} {l : List Pc} (h : Pcs w v l) : ∃ ao cap, v = .slice ao l.length cap := by
  rcases h.2 with ⟨rfl, h0⟩ | ⟨g, cap, cur, rfl, -⟩
  · exact ⟨_, _, by rw [h0]⟩
  · exact ⟨_, _, rfl⟩
theorem Pcs.nil (w : World) : Pcs w (.slice none 0 0) [] := World.ownsRow_nil _ _ _ _
/-- The cells of a piece at its place. -/
def PcAt (w : World) (g o : Nat) (p : Pc) : Prop := w.cell? ⟨g, o, none⟩ = some (.int .i64 p.cls) ∧ w.cell? ⟨g, o + 1, none⟩ = some (.int .i64 p.lo) ∧ w.cell? ⟨g, o + 2, none⟩ = some (.int .i64 p.hi) ∧ w.cell? ⟨g, o + 3, none⟩ = some (.string p.txt)
theorem PcAt.still {w w' : World} {g o : Nat} {p : Pc} (h : PcAt w g o p) (hf : Frm (fun _ => False) w w') : PcAt w' g o p := ⟨hf.cell h.1 (fun h => h), hf.cell h.2.1 (fun h => h), hf.cell h.2.2.1 (fun h => h), hf.cell h.2.2.2 (fun h => h)⟩
theorem Pcs.cell {w : World} {v : Value} {l : List Pc} (h : Pcs w v l) (k : Nat) (hk : k < l.length) : ∃ g cap, v = .slice (some ⟨g, 0, none⟩) l.length cap ∧ PcAt w g (k * 4) l[k] ∧ g < w.heap.size := by
  rcases h.2 with ⟨rfl, h0⟩ | ⟨g, cap, cur, rfl, hb, hg, h1, h2, h3, h4⟩
  · rw [h0] at hk
    exact absurd hk (Nat.not_lt_zero _)
  · have hc : ∀ j, j < 4 → ∀ u, (pcC l[k])[j]? = some u → w.cell? ⟨g, k * 4 + j, none⟩ = some u := fun j hj u hu => by
      have := World.ownsRow.cells (h : w.ownsRow 0 66 4 _ _ _) (g := g) rfl (k * 4 + j) u (by rw [pcC_at l k j hk hj]; exact hu)
      rw [Addr.add_lit, Nat.zero_add] at this
      exact this
    exact ⟨g, cap, rfl, ⟨hc 0 (by omega) _ rfl, hc 1 (by omega) _ rfl, hc 2 (by omega) _ rfl, hc 3 (by omega) _ rfl⟩, (Array.getElem?_eq_some_iff.1 hg).1⟩
/-- The slice at place k. -/
theorem Pcs.at' {w : World} {ao : Option Addr} {n cap : Nat} {l : List Pc} (h : Pcs w (.slice ao n cap) l) (k : Nat) (hk : k < l.length) : ∃ g, ao = some ⟨g, 0, none⟩ ∧ PcAt w g (k * 4) l[k] ∧ g < w.heap.size := by
  obtain ⟨g, cap', hv, h2, h3⟩ := h.cell k hk
  injection hv with h1 _ _
  exact ⟨g, h1, h2, h3⟩
theorem pc_info : ∃ i : TypeInfo, Tryz.prog.info? 66 = some i ∧ i.zero = some (.agg #[.int .i64 0, .int .i64 0, .int .i64 0, .string ⟨#[]⟩]) ∧ i.size = 4 ∧ i.bytes = 40 := by
  obtain ⟨i, h1, h2, h3, h4⟩ := info_parts (show (Tryz.prog.info? 66).map (fun i => (i.zero, i.size, i.bytes)) = some (some (.agg #[.int .i64 0, .int .i64 0, .int .i64 0, .string ⟨#[]⟩]), 4, 40) by kernel_rfl)
  exact ⟨i, h1, h2, h3, h4⟩
/-- Texts of the pieces are within reach. -/
def Small (ps : List Pc) : Prop := ∀ p ∈ ps, p.txt.size ≤ 1000000
theorem Small.at {ps : List Pc} (h : Small ps) {k : Nat} (hk : k < ps.length) : ps[k].txt.size ≤ 1000000 := h _ (List.getElem_mem hk)
end Go.Proofs.YtgnjakaamgeibaaGreatDoor
