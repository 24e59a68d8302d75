/-
  Covers, pieces: lengths, belongs, coversPiece, and the reference's covers. Conditions: the strings are within reach.
-/
import Derived.Test.YtgnjakaamgeibaaDoorRgt
import Derived.Test.YtgnjakaamgeibaaDoorFnd
import Derived.BigQuiet
namespace Go.Proofs.YtgnjakaamgeibaaDoor
open Go.RowKit Go.Shelf
attribute [local go_sem] Oper.semAt_some

theorem lengths_any (p : Pc) (_hs : p.txt.size ≤ 9223372036854775807) (w : World) : Calls Tryd.prog 123 #[pcV p] w fun e w' => e = .returned (.tuple #[.int .i64 (leastP p), .int .i64 (mostP p)]) ∧ Frm (fun _ => False) w w' := by
  obtain ⟨c, l, h, t⟩ := p
  unfold pcV leastP mostP Pc.t
  simp only [size_list]
  by_cases hc : c = 0
  · subst hc
    rw [if_pos rfl, if_pos rfl]
    go_enter Tryd.func123, Tryd.ntmps123
    go_upto_region 2 with fail
    go_quiet (fail)
    go_wp2_with fail
    exact bodyPost_ret (results_tmp2 rfl _ _ _) rfl ⟨rfl, ((Frm.refl _ _).alloc _).drewN _⟩
  · rw [if_neg hc, if_neg hc]
    have h0 : (c == 0) = false := by rw [beq_eq_false_iff_ne]; exact hc
    go_enter Tryd.func123, Tryd.ntmps123
    go_upto_region 3 with fail
    go_quiet (fail)
    go_wp2_with fail
    exact bodyPost_ret (results_tmp2 rfl _ _ _) rfl ⟨rfl, ((Frm.refl _ _).alloc _).drewN _⟩

theorem belongs_any (p : Pc) (hs : p.txt.size ≤ 9223372036854775807) (k : Int) (w : World) : Calls Tryd.prog 122 #[pcV p, .int .i64 k] w fun e w' => e = .returned (.bool (belB p k)) ∧ Frm (fun _ => False) w w' := by
  obtain ⟨c, l, h, t⟩ := p
  unfold pcV belB Pc.t
  simp only at hs ⊢
  by_cases hc : c = 0
  · subst hc
    rw [if_pos rfl]
    go_enter Tryd.func122, Tryd.ntmps122
    go_wp2_with fail
    refine (consists_any t hs k _).mono ?_
    rintro e w1 ⟨rfl, rfl⟩
    go_wp2_with fail
    go_ret
    exact ⟨rfl, (Frm.refl _ _).alloc _⟩
  · rw [if_neg hc]
    have h0 : (c == 0) = false := by rw [beq_eq_false_iff_ne]; exact hc
    go_enter Tryd.func122, Tryd.ntmps122
    go_wp2_with fail
    refine (inside_any c k _).mono ?_
    rintro e w1 ⟨rfl, rfl⟩
    go_wp2_with fail
    go_ret
    exact ⟨rfl, (Frm.refl _ _).alloc _⟩

def pcO (p : Pc) : Obj := .cells #[.int .i64 p.cls, .int .i64 p.lo, .int .i64 p.hi, .string p.txt] 53
/-- Two boxes of pieces. -/
theorem two_pcs (w : World) (a b : Pc) : ∃ W x y, (w.alloc (pcO a)).alloc (pcO b) = W ∧ w.heap.size = x ∧ (w.alloc (pcO a)).heap.size = y ∧ Frm (fun _ => False) w W ∧
    (W.cell? ⟨x, 0, none⟩ = some (.int .i64 a.cls) ∧ W.cell? ⟨x, 1, none⟩ = some (.int .i64 a.lo) ∧ W.cell? ⟨x, 2, none⟩ = some (.int .i64 a.hi) ∧ W.cell? ⟨x, 3, none⟩ = some (.string a.txt)) ∧
    (W.cell? ⟨y, 0, none⟩ = some (.int .i64 b.cls) ∧ W.cell? ⟨y, 1, none⟩ = some (.int .i64 b.lo) ∧ W.cell? ⟨y, 2, none⟩ = some (.int .i64 b.hi) ∧ W.cell? ⟨y, 3, none⟩ = some (.string b.txt)) := by
  obtain ⟨a0, a1, a2, a3⟩ := pc_cells (heap_alloc_new w (pcO a))
  have hB := pc_cells (heap_alloc_new (w.alloc (pcO a)) (pcO b))
  have f : Frm (fun _ => False) (w.alloc (pcO a)) ((w.alloc (pcO a)).alloc (pcO b)) := (Frm.refl _ _).alloc _
  exact ⟨_, _, _, rfl, rfl, rfl, ((Frm.refl _ _).alloc _).alloc _, ⟨f.cell a0 (fun h => h), f.cell a1 (fun h => h), f.cell a2 (fun h => h), f.cell a3 (fun h => h)⟩, hB⟩

theorem str_eq2 (s t : ByteArray) : (s.toList == t.toList) = (s.data.toList == t.data.toList) := by rw [toList_data, toList_data]

set_option maxRecDepth 100000 in
set_option maxHeartbeats 4000000 in
theorem covP_any (a b : Pc) (ha : a.txt.size ≤ 9223372036854775807) (hb : b.txt.size ≤ 9223372036854775807) (w : World) : Calls Tryd.prog 121 #[pcV a, pcV b] w fun e w' => e = .returned (.bool (covP a b)) ∧ Frm (fun _ => False) w w' := by
  have hln := lengths_any b hb
  have hbl := belongs_any b hb
  obtain ⟨c, l, h, t⟩ := a
  obtain ⟨c', l', h', t'⟩ := b
  have hcv : covP ⟨c, l, h, t⟩ ⟨c', l', h', t'⟩ = if c = 0 then decide (c' = 0) && (t.data.toList == t'.data.toList) else belB ⟨c', l', h', t'⟩ c && decide (l ≤ leastP ⟨c', l', h', t'⟩) && decide (mostP ⟨c', l', h', t'⟩ ≤ h) := by
    unfold covP belB leastP mostP
    simp only
    by_cases hc : c = 0
    · rw [if_pos hc, if_pos hc]
    · rw [if_neg hc, if_neg hc]
      by_cases hc' : c' = 0
      · rw [if_pos hc', if_pos hc', if_pos hc', if_pos hc']
      · rw [if_neg hc', if_neg hc', if_neg hc', if_neg hc']
  rw [hcv]
  clear hcv
  have hse := str_eq2 t t'
  generalize leastP ⟨c', l', h', t'⟩ = L at *
  generalize mostP ⟨c', l', h', t'⟩ = M at *
  have hblc := hbl c
  generalize belB ⟨c', l', h', t'⟩ c = B at *
  clear hbl
  unfold pcV at *
  simp only at *
  by_cases hc : c = 0
  · subst hc
    rw [if_pos rfl]
    clear hln hblc
    cases hc' : (c' == 0)
    · have e1 : decide (c' = 0) = false := by rw [beq_eq_false_iff_ne] at hc'; exact decide_eq_false hc'
      rw [e1]
      clear e1
      go_enter Tryd.func121, Tryd.ntmps121
      go_wp2_with fail
      go_ret
      exact ⟨rfl, ((Frm.refl _ _).alloc _).alloc _⟩
    · have e1 : decide (c' = 0) = true := by rw [beq_iff_eq] at hc'; exact decide_eq_true hc'
      rw [e1, ← hse]
      clear e1 hse
      go_enter Tryd.func121, Tryd.ntmps121
      go_wp2_with fail
      go_ret
      exact ⟨rfl, ((Frm.refl _ _).alloc _).alloc _⟩
  · rw [if_neg hc]
    have h0 : (c == 0) = false := by rw [beq_eq_false_iff_ne]; exact hc
    have Hln := Lib.hid hln
    have Hbl := Lib.hid hblc
    clear hln hblc hse hc
    obtain ⟨W1, x, y, hW, hx, hy, hf, ⟨a0, a1, a2, a3⟩, b0, b1, b2, b3⟩ := two_pcs w ⟨c, l, h, t⟩ ⟨c', l', h', t'⟩
    unfold pcO at hW hy
    simp only at hW hx hy a0 a1 a2 a3 b0 b1 b2 b3
    go_enter Tryd.func121, Tryd.ntmps121
    go_upto_region 3 with fail
    clear hy hW hx
    go_wp2_with fail
    refine (Hln.out _).mono ?_
    rintro e w1 ⟨rfl, f1⟩
    have a0 := f1.cell a0 (fun h => h)
    have a1 := f1.cell a1 (fun h => h)
    have a2 := f1.cell a2 (fun h => h)
    have b0 := f1.cell b0 (fun h => h)
    have b1 := f1.cell b1 (fun h => h)
    have b2 := f1.cell b2 (fun h => h)
    have b3 := f1.cell b3 (fun h => h)
    have Hf := Lib.hid (hf.trans f1)
    clear hf f1 Hln a3
    go_wp2_with fail
    refine (Hbl.out _).mono ?_
    rintro e w2 ⟨rfl, f2⟩
    have a1 := f2.cell a1 (fun h => h)
    have a2 := f2.cell a2 (fun h => h)
    have HF := Lib.hid (Hf.out.trans f2)
    clear f2 Hbl Hf b0 b1 b2 b3 a0
    cases B
    · go_wp2_with fail
      go_ret
      exact ⟨rfl, HF.out⟩
    · by_cases h1 : l ≤ L
      · have e1 : decide (l ≤ L) = true := decide_eq_true h1
        go_wp2_with fail
        go_ret
        exact ⟨ret_bool (by first | rfl | (rw [e1]; rfl)), HF.out⟩
      · have e1 : decide (l ≤ L) = false := decide_eq_false h1
        go_wp2_with fail
        go_ret
        exact ⟨ret_bool (by first | rfl | (rw [e1]; rfl)), HF.out⟩

set_option maxRecDepth 100000 in
set_option maxHeartbeats 4000000 in
theorem rcovP_any (a b : Pc) (_ha : pieceB a = true) (hbp : pieceB b = true) (has : a.txt.size ≤ 9223372036854775807) (hb : b.txt.size ≤ 9223372036854775807) (w : World) : Calls Tryd.prog 90 #[pcV a, pcV b] w fun e w' => e = .returned (.bool (covP a b)) ∧ Frm (fun _ => False) w w' := by
  have hch : b.cls = 0 → ∀ k, allR b.txt.data.toList k = consB b.txt.data.toList k := fun h0 k => by
    unfold pieceB at hbp
    rw [if_pos h0] at hbp
    simp only [Bool.and_eq_true] at hbp
    exact allR_cons hbp.2 k
  clear _ha hbp
  obtain ⟨c, l, h, t⟩ := a
  obtain ⟨c', l', h', t'⟩ := b
  unfold covP Pc.t pcV
  simp only [size_list] at *
  have hse := str_eq2 t t'
  obtain ⟨W1, x, y, hW, hx, hy, hf, ⟨a0, a1, a2, a3⟩, b0, b1, b2, b3⟩ := two_pcs w ⟨c, l, h, t⟩ ⟨c', l', h', t'⟩
  unfold pcO at hW hy
  simp only at hW hx hy a0 a1 a2 a3 b0 b1 b2 b3
  by_cases hc : c = 0
  · subst hc
    rw [if_pos rfl]
    clear hch
    cases hc' : (c' == 0)
    · have e1 : decide (c' = 0) = false := by rw [beq_eq_false_iff_ne] at hc'; exact decide_eq_false hc'
      rw [e1]
      clear e1
      go_enter Tryd.func90, Tryd.ntmps90
      go_wp2_with fail
      go_ret
      exact ⟨rfl, hf⟩
    · have e1 : decide (c' = 0) = true := by rw [beq_iff_eq] at hc'; exact decide_eq_true hc'
      rw [e1, ← hse]
      clear e1 hse
      go_enter Tryd.func90, Tryd.ntmps90
      go_wp2_with fail
      go_ret
      exact ⟨rfl, hf⟩
  rw [if_neg hc]
  have h0 : (c == 0) = false := by rw [beq_eq_false_iff_ne]; exact hc
  have Hf := Lib.hid hf
  clear hse hc hf
  by_cases hc' : c' = 0
  · subst hc'
    rw [if_pos rfl]
    have hcq := hch rfl c
    have Hcq := Lib.hid hcq
    clear hch hcq
    go_enter Tryd.func90, Tryd.ntmps90
    go_upto_region 4 with fail
    clear hy hW hx
    go_wp2_with fail
    refine (rall_any t' hb c _).mono ?_
    rintro e w2 ⟨rfl, rfl⟩
    rw [Hcq.out]
    cases hB : consB t'.data.toList c
    · go_wp2_with fail
      go_ret
      exact ⟨ret_bool (by rw [hB]; rfl), Hf.out⟩
    · by_cases h1 : l ≤ (t'.size : Int)
      · have e1 : decide (l ≤ (t'.size : Int)) = true := decide_eq_true h1
        go_wp2_with fail
        go_ret
        exact ⟨ret_bool (by rw [hB, e1]; first | rfl | simp), Hf.out⟩
      · have e1 : decide (l ≤ (t'.size : Int)) = false := decide_eq_false h1
        go_wp2_with fail
        go_ret
        exact ⟨ret_bool (by rw [hB, e1]; first | rfl | simp), Hf.out⟩
  · rw [if_neg hc']
    have h0' : (c' == 0) = false := by rw [beq_eq_false_iff_ne]; exact hc'
    clear hc' hch
    go_enter Tryd.func90, Tryd.ntmps90
    go_upto_region 5 with fail
    clear hy hW hx
    go_wp2_with fail
    refine (contained_any c' c _).mono ?_
    rintro e w2 ⟨rfl, rfl⟩
    cases hB : insB c' c
    · go_wp2_with fail
      go_ret
      exact ⟨ret_bool (by rw [hB]; rfl), Hf.out⟩
    · by_cases h1 : l ≤ l'
      · have e1 : decide (l ≤ l') = true := decide_eq_true h1
        go_wp2_with fail
        go_ret
        exact ⟨ret_bool (by rw [hB, e1]; first | rfl | simp), Hf.out⟩
      · have e1 : decide (l ≤ l') = false := decide_eq_false h1
        go_wp2_with fail
        go_ret
        exact ⟨ret_bool (by rw [hB, e1]; first | rfl | simp), Hf.out⟩
end Go.Proofs.YtgnjakaamgeibaaDoor
