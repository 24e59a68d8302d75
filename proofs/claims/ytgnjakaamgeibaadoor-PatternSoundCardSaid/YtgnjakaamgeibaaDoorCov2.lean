/-
  Covers, patterns: coversEach, coversAll, Covers. Conditions: the pieces lie in memory, their texts within reach.
-/
import Derived.Test.YtgnjakaamgeibaaDoorCov
namespace Go.Proofs.YtgnjakaamgeibaaDoor
open Go.RowKit Go.Shelf
attribute [local go_sem] Oper.semAt_some

theorem covE_len : ∀ {p q : List Pc}, p.length ≠ q.length → covE p q = false
  | [], [], h => absurd rfl h
  | [], _ :: _, _ => rfl
  | _ :: _, [], _ => rfl
  | a :: p, b :: q, h => by
    rw [covE, covE_len (p := p) (q := q) (fun e => h (by rw [List.length_cons, List.length_cons, e]))]
    simp
theorem covE_step {p q : List Pc} {k : Nat} (hp : k < p.length) (hq : k < q.length) : covE (p.drop k) (q.drop k) = (covP p[k] q[k] && covE (p.drop (k + 1)) (q.drop (k + 1))) := by
  rw [List.drop_eq_getElem_cons hp, List.drop_eq_getElem_cons hq, covE]

set_option maxRecDepth 100000 in
set_option maxHeartbeats 4000000 in
theorem covE_any {v v' : Value} {ps qs : List Pc} (w : World) (hP : Pcs w v ps) (hQ : Pcs w v' qs) (hs : Small ps) (hs' : Small qs) (hn : ps.length ≤ 1000) :
    Calls Tryd.prog 88 #[v, v'] w fun e w' => e = .returned (.bool (covE ps qs)) ∧ Frm (fun _ => False) w w' := by
  obtain ⟨ao, cap, rfl⟩ := hP.form
  obtain ⟨bo, cap', rfl⟩ := hQ.form
  have HP := Lib.hid hP
  have HQ := Lib.hid hQ
  have HS := Lib.hid hs
  have HS' := Lib.hid hs'
  clear hP hQ hs hs'
  by_cases hl : ps.length = qs.length
  · have hbeq : ((ps.length : Int) != (qs.length : Int)) = false := by rw [hl]; simp
    have Hl := Lib.hid hl
    clear hl
    go_enter Tryd.func88, Tryd.ntmps88
    go_wp2_with fail
    go_loopw [13] (fun sk wr => ∃ k : Nat, sk = .int .i64 k ∧ k ≤ ps.length ∧ Hid (covE ps qs = covE (ps.drop k) (qs.drop k)) ∧ Frm (fun _ => False) w wr) (fun sk _ => ps.length - (intOf sk).toNat)
    case atStart => exact ⟨0, rfl, Nat.zero_le _, by show _ = _; rfl, Frm.refl _ _⟩
    case round =>
      obtain ⟨k, rfl, hk, hb, hf⟩ := hrel
      by_cases hlt : k < ps.length
      · have hlq : k < qs.length := by rw [← Hl.out]; exact hlt
        obtain ⟨g, rfl, ⟨c0, c1, c2, c3⟩, hg⟩ := (HP.out.still hf).at' k hlt
        obtain ⟨g', rfl, ⟨d0, d1, d2, d3⟩, hg'⟩ := (HQ.out.still hf).at' k hlq
        have hst := covE_step hlt hlq
        have hcp := covP_any ps[k] qs[k] (by have := HS.out.at hlt; omega) (by have := HS'.out.at hlq; omega)
        rw [← hb.out] at hst
        have Hst := Lib.hid hst
        have Hcp := Lib.hid hcp
        have Hf := Lib.hid hf
        clear hst hb hcp hf
        generalize ps[k] = p at *
        generalize qs[k] = q at *
        unfold pcV at Hcp
        go_upto_region 6 with fail
        go_region_held3 (fun w' => w'.cell? ⟨g, k * 4, none⟩ = some (.int .i64 p.cls) ∧ w'.cell? ⟨g, k * 4 + 1, none⟩ = some (.int .i64 p.lo) ∧ w'.cell? ⟨g, k * 4 + 2, none⟩ = some (.int .i64 p.hi) ∧ w'.cell? ⟨g, k * 4 + 3, none⟩ = some (.string p.txt) ∧ w'.cell? ⟨g', k * 4, none⟩ = some (.int .i64 q.cls) ∧ w'.cell? ⟨g', k * 4 + 1, none⟩ = some (.int .i64 q.lo) ∧ w'.cell? ⟨g', k * 4 + 2, none⟩ = some (.int .i64 q.hi) ∧ w'.cell? ⟨g', k * 4 + 3, none⟩ = some (.string q.txt))
          (first | exact ⟨c0, c1, c2, c3, d0, d1, d2, d3⟩ | exact ⟨c0', c1', c2', c3', d0', d1', d2', d3'⟩)
          (first | (go_at_call 121; refine (Hcp.out _).mono ?_; rintro e w7 ⟨rfl, f7⟩; have c0' := f7.cell c0 (fun h => h); have c1' := f7.cell c1 (fun h => h); have c2' := f7.cell c2 (fun h => h); have c3' := f7.cell c3 (fun h => h); have d0' := f7.cell d0 (fun h => h); have d1' := f7.cell d1 (fun h => h); have d2' := f7.cell d2 (fun h => h); have d3' := f7.cell d3 (fun h => h)))
        have Hf2 := Lib.hid (Hf.out.drew.trans f7)
        cases hcv : covP p q
        · have hres := Lib.hid (show covE ps qs = false by rw [Hst.out, hcv]; rfl)
          go_wp2_with fail
          go_ret
          exact ⟨ret_bool hres.out.symm, Hf2.out⟩
        · have hnx := Lib.hid (show covE ps qs = covE (ps.drop (k + 1)) (qs.drop (k + 1)) by rw [Hst.out, hcv]; rfl)
          go_wp2_with fail
          go_roundw
          case rel => exact ⟨k + 1, by go_num, hlt, hnx, Hf2.out⟩
          case measure => simp [intOf]; omega
      · obtain rfl : k = ps.length := by omega
        have hres := Lib.hid (show covE ps qs = true by rw [hb.out, List.drop_length, List.drop_eq_nil_of_le (by rw [Hl.out]; exact Nat.le_refl _)]; rfl)
        clear hb hlt
        go_wp2_with fail
        go_ret
        exact ⟨ret_bool hres.out.symm, hf⟩
  · have hbeq : ((ps.length : Int) != (qs.length : Int)) = true := by rw [bne_iff_ne]; omega
    have hres := Lib.hid (covE_len hl)
    clear hl
    go_enter Tryd.func88, Tryd.ntmps88
    go_wp2_with fail
    go_ret
    exact ⟨ret_bool hres.out.symm, Frm.refl _ _⟩

theorem covA_no {ps qs : List Pc} (h : ps.length ≠ 1) : covA ps qs = false := by
  unfold covA
  cases ps with
  | nil => rfl
  | cons a l => cases l with
    | nil => exact absurd rfl h
    | cons b l => rfl
theorem piece_len {p : Pc} (h : pieceB p = true) (hs : p.txt.size ≤ 1000000) : 0 ≤ leastP p ∧ leastP p ≤ 1000000 ∧ 0 ≤ mostP p ∧ mostP p ≤ 1000000 := by
  unfold pieceB at h
  unfold leastP mostP
  by_cases hc : p.cls = 0
  · rw [if_pos hc, if_pos hc]
    have : p.t.length = p.txt.size := size_list _
    omega
  · rw [if_neg hc] at h
    rw [if_neg hc, if_neg hc]
    simp only [Bool.and_eq_true, decide_eq_true_eq] at h
    omega

set_option maxRecDepth 100000 in
set_option maxHeartbeats 4000000 in
theorem covA_any {v v' : Value} {ps qs : List Pc} (w : World) (hP : Pcs w v ps) (hQ : Pcs w v' qs) (hs' : Small qs) (hq : ∀ p ∈ qs, pieceB p = true) (hn : qs.length ≤ 1000) :
    Calls Tryd.prog 89 #[v, v'] w fun e w' => e = .returned (.bool (covA ps qs)) ∧ Frm (fun _ => False) w w' := by
  obtain ⟨ao, cap, rfl⟩ := hP.form
  obtain ⟨bo, cap', rfl⟩ := hQ.form
  by_cases hl : ps.length = 1
  · obtain ⟨a, rfl⟩ := List.length_eq_one_iff.1 hl
    obtain ⟨g, rfl, ⟨a0, a1, a2, a3⟩, hg⟩ := hP.at' 0 (by simp)
    simp only [Nat.zero_mul, Nat.zero_add, List.getElem_cons_zero] at a0 a1 a2 a3
    simp only [List.length_singleton] at *
    have HQ := Lib.hid hQ
    have HS' := Lib.hid hs'
    have Hq := Lib.hid hq
    have hA : covA [a] qs = if a.cls = 0 then false else qs.all (fun b => belB b a.cls) && (decide (a.lo ≤ sumL leastP qs) && decide (min 200 (sumL mostP qs) ≤ a.hi)) := rfl
    clear hP hQ hs' hq hl
    by_cases hc : a.cls = 0
    · rw [if_pos hc] at hA
      have t0 : (a.cls == 0) = true := by rw [hc]; rfl
      have HA := Lib.hid hA
      clear hA hc
      go_enter Tryd.func89, Tryd.ntmps89
      go_wp2_with fail
      go_ret
      exact ⟨ret_bool HA.out.symm, Frm.refl _ _⟩
    · rw [if_neg hc] at hA
      have t0 : (a.cls == 0) = false := by rw [beq_eq_false_iff_ne]; exact hc
      have HA := Lib.hid hA
      clear hA hc
      go_enter Tryd.func89, Tryd.ntmps89
      go_wp2_with fail
      go_loopw [5, 6, 23] (fun sl sm sk wr => ∃ k : Nat, sk = .int .i64 k ∧ k ≤ qs.length ∧ sl = .int .i64 (sumL leastP (qs.take k)) ∧ sm = .int .i64 (sumL mostP (qs.take k)) ∧ Hid ((qs.take k).all (fun b => belB b a.cls) = true) ∧ Hid (0 ≤ sumL leastP (qs.take k) ∧ sumL leastP (qs.take k) ≤ 1000000 * k ∧ 0 ≤ sumL mostP (qs.take k) ∧ sumL mostP (qs.take k) ≤ 1000000 * k) ∧ Frm (fun _ => False) w wr) (fun _ _ sk _ => qs.length - (intOf sk).toNat)
      case atStart => exact ⟨0, rfl, Nat.zero_le _, rfl, rfl, by show _ = _; rfl, by show _ ∧ _; rw [List.take_zero]; decide, Frm.refl _ _⟩
      case round =>
        obtain ⟨k, rfl, hk, rfl, rfl, hall, hbd, hf⟩ := hrel
        by_cases hlt : k < qs.length
        · obtain ⟨g', rfl, ⟨c0, c1, c2, c3⟩, hg'⟩ := (HQ.out.still hf).at' k hlt
          have hbel := belongs_any qs[k] (by have := HS'.out.at hlt; omega) a.cls
          have hlen := lengths_any qs[k] (by have := HS'.out.at hlt; omega)
          have hpl := piece_len (Hq.out _ (List.getElem_mem hlt)) (HS'.out.at hlt)
          have htk : ∀ f : Pc → Int, sumL f (qs.take (k + 1)) = sumL f (qs.take k) + f qs[k] := fun f => by
            rw [List.take_succ_eq_append_getElem hlt, sum_snoc]
          have htl := htk leastP
          have htm := htk mostP
          have hta : (qs.take (k + 1)).all (fun b => belB b a.cls) = belB qs[k] a.cls := by
            rw [List.take_succ_eq_append_getElem hlt, List.all_append, hall.out]
            simp
          have hno : belB qs[k] a.cls = false → qs.all (fun b => belB b a.cls) = false := fun h => by
            rw [Bool.eq_false_iff]
            intro h2
            rw [List.all_eq_true] at h2
            have := h2 _ (List.getElem_mem hlt)
            rw [h] at this
            cases this
          generalize qs[k] = q at *
          generalize sumL leastP (qs.take k) = L at *
          generalize sumL mostP (qs.take k) = M at *
          have hb := hbd.out
          have hb2 : 0 ≤ L + leastP q ∧ L + leastP q ≤ 1000000 * (k + 1 : Nat) ∧ 0 ≤ M + mostP q ∧ M + mostP q ≤ 1000000 * (k + 1 : Nat) := by omega
          have Hb2 := Lib.hid hb2
          have hfl : 0 ≤ L + leastP q ∧ L + leastP q ≤ 2000000000 := by omega
          have hfm : 0 ≤ M + mostP q ∧ M + mostP q ≤ 2000000000 := by omega
          obtain ⟨fl0, fl1⟩ := hfl
          obtain ⟨fm0, fm1⟩ := hfm
          have Hta := Lib.hid hta
          have Htl := Lib.hid htl
          have Htm := Lib.hid htm
          have Hno := Lib.hid hno
          have Hlen := Lib.hid hlen
          have Hbel := Lib.hid hbel
          clear hall hbd hta htl htm htk hno hlen hbel hb hb2 hpl
          have hO := heap_alloc_new wr (.cells #[.int .i64 q.cls, .int .i64 q.lo, .int .i64 q.hi, .string q.txt] 53)
          have hfo := (Frm.refl (fun _ => False) wr).alloc (.cells #[.int .i64 q.cls, .int .i64 q.lo, .int .i64 q.hi, .string q.txt] 53)
          have a0 := (hf.trans hfo).cell a0 (fun h => h)
          have Hf1 := Lib.hid (hf.trans hfo)
          obtain ⟨d0, d1, d2, d3⟩ := pc_cells hO
          unfold pcV at Hlen Hbel
          clear hfo hf
          go_upto_region 7 with fail
          obtain ⟨W1, hW1⟩ : ∃ W, W = wr.alloc (.cells #[.int .i64 q.cls, .int .i64 q.lo, .int .i64 q.hi, .string q.txt] 53) := ⟨_, rfl⟩
          obtain ⟨x, hx⟩ : ∃ b, b = wr.heap.size := ⟨_, rfl⟩
          rw [← hW1, ← hx] at d0 d1 d2 d3
          rw [← hW1] at Hf1 a0
          rw [← hW1, ← hx]
          clear hW1 hx c0 c1 c2 c3 hO
          go_region_held3 (fun w' => w'.cell? ⟨x, 0, none⟩ = some (.int .i64 q.cls) ∧ w'.cell? ⟨x, 1, none⟩ = some (.int .i64 q.lo) ∧ w'.cell? ⟨x, 2, none⟩ = some (.int .i64 q.hi) ∧ w'.cell? ⟨x, 3, none⟩ = some (.string q.txt) ∧ w'.cell? ⟨g, 0, none⟩ = some (.int .i64 a.cls))
            (first | exact ⟨d0, d1, d2, d3, a0⟩ | exact ⟨d0', d1', d2', d3', a0'⟩)
            (first | (go_at_call 122; refine (Hbel.out _).mono ?_; rintro e w7 ⟨rfl, f7⟩; have d0' := f7.cell d0 (fun h => h); have d1' := f7.cell d1 (fun h => h); have d2' := f7.cell d2 (fun h => h); have d3' := f7.cell d3 (fun h => h); have a0' := f7.cell a0 (fun h => h)))
          have Hf2 := Lib.hid (Hf1.out.drew.trans f7)
          clear Hf1 a0 d1 d2
          cases hbl : belB q a.cls
          · have hres := Lib.hid (show covA [a] qs = false by rw [HA.out, Hno.out hbl]; rfl)
            clear Hlen
            go_wp2_with fail
            go_ret
            exact ⟨ret_bool hres.out.symm, Hf2.out⟩
          · clear d0 d3
            go_wp2_with fail
            refine (Hlen.out _).mono ?_
            rintro e w8 ⟨rfl, f8⟩
            have Hf3 := Lib.hid (Hf2.out.trans f8)
            clear d0' d1' d2' d3' a0' f8 f7 Hf2
            go_wp2_with fail
            go_roundw
            case rel => exact ⟨k + 1, by go_num, hlt, by rw [Htl.out], by rw [Htm.out], by show _ = _; rw [Hta.out, hbl], by show _ ∧ _; rw [Htl.out, Htm.out]; exact Hb2.out, Hf3.out⟩
            case measure => simp [intOf]; omega
        · obtain rfl : k = qs.length := by omega
          have a0 := hf.cell a0 (fun h => h)
          have a1 := hf.cell a1 (fun h => h)
          have a2 := hf.cell a2 (fun h => h)
          have hres : covA [a] qs = (decide (a.lo ≤ sumL leastP qs) && decide (min 200 (sumL mostP qs) ≤ a.hi)) := by
            rw [HA.out]
            have := hall.out
            rw [List.take_length] at this
            rw [this]; rfl
          have hb := hbd.out
          rw [List.take_length] at hb ⊢
          generalize sumL leastP qs = L at *
          generalize sumL mostP qs = M at *
          have Hres := Lib.hid hres
          have Hf := Lib.hid hf
          clear hres hb hbd hall hlt hf
          by_cases h1 : a.lo ≤ L
          · have e1 := Lib.hid (decide_eq_true h1)
            by_cases h2 : (200 : Int) ≤ M
            · have e2 := Lib.hid (Int.min_eq_left h2)
              go_wp2_with fail
              go_ret
              exact ⟨ret_bool (by rw [Hres.out, e1.out, e2.out]; rfl), Hf.out⟩
            · have e2 := Lib.hid (Int.min_eq_right (show M ≤ 200 by omega))
              go_wp2_with fail
              go_ret
              exact ⟨ret_bool (by rw [Hres.out, e1.out, e2.out]; rfl), Hf.out⟩
          · have e1 := Lib.hid (decide_eq_false h1)
            go_wp2_with fail
            go_ret
            exact ⟨ret_bool (by rw [Hres.out, e1.out]; rfl), Hf.out⟩
  · have hbeq : ((ps.length : Int) != 1) = true := by rw [bne_iff_ne]; omega
    have hres := Lib.hid (covA_no (qs := qs) hl)
    clear hl
    go_enter Tryd.func89, Tryd.ntmps89
    go_wp2_with fail
    go_ret
    exact ⟨ret_bool hres.out.symm, Frm.refl _ _⟩

set_option maxRecDepth 100000 in
set_option maxHeartbeats 4000000 in
theorem covers_any {v v' : Value} {ps qs : List Pc} (w : World) (hP : Pcs w v ps) (hQ : Pcs w v' qs) (hs : Small ps) (hs' : Small qs) (hn : ps.length ≤ 1000) (hn' : qs.length ≤ 1000) (hT : Tabs w) :
    Calls Tryd.prog 44 #[v, v'] w fun e w' => e = .returned (.bool (coversB ps qs)) ∧ Frm (fun _ => False) w w' := by
  have h1 := right_any w hP hs hn hT
  have h2 : ∀ w1, Frm (fun _ => False) w w1 → Calls Tryd.prog 79 #[v'] w1 fun e w' => e = .returned (.bool (rightB qs)) ∧ Frm (fun _ => False) w1 w' := fun w1 f => right_any w1 (hQ.still f) hs' hn' (hT.frm f)
  have h3 : ∀ w1, Frm (fun _ => False) w w1 → Calls Tryd.prog 88 #[v, v'] w1 fun e w' => e = .returned (.bool (covE ps qs)) ∧ Frm (fun _ => False) w1 w' := fun w1 f => covE_any w1 (hP.still f) (hQ.still f) hs hs' hn
  have h4 : rightB qs = true → ∀ w1, Frm (fun _ => False) w w1 → Calls Tryd.prog 89 #[v, v'] w1 fun e w' => e = .returned (.bool (covA ps qs)) ∧ Frm (fun _ => False) w1 w' := fun h w1 f => covA_any w1 (hP.still f) (hQ.still f) hs' (right_mem h) hn'
  obtain ⟨ao, cap, rfl⟩ := hP.form
  obtain ⟨bo, cap', rfl⟩ := hQ.form
  have hres : coversB ps qs = (rightB ps && rightB qs && (covE ps qs || covA ps qs)) := rfl
  have H2 := Lib.hid h2
  have H3 := Lib.hid h3
  clear hP hQ h2 h3
  cases e1 : rightB ps
  · have Hr := Lib.hid (show coversB ps qs = false by rw [hres, e1]; rfl)
    rw [e1] at h1
    clear e1 hres h4
    go_enter Tryd.func44, Tryd.ntmps44
    go_wp2_with fail
    refine h1.mono ?_
    rintro e w1 ⟨rfl, f1⟩
    go_wp2_with fail
    go_ret
    exact ⟨ret_bool Hr.out.symm, f1⟩
  rw [e1] at h1
  cases e2 : rightB qs
  · have Hr := Lib.hid (show coversB ps qs = false by rw [hres, e1, e2]; rfl)
    rw [e2] at H2
    clear e1 e2 hres h4
    go_enter Tryd.func44, Tryd.ntmps44
    go_wp2_with fail
    refine h1.mono ?_
    rintro e w1 ⟨rfl, f1⟩
    go_wp2_with fail
    refine (H2.out _ f1).mono ?_
    rintro e w2 ⟨rfl, f2⟩
    go_wp2_with fail
    go_ret
    exact ⟨ret_bool Hr.out.symm, f1.trans f2⟩
  rw [e2] at H2
  have H4 := Lib.hid (h4 e2)
  cases e3 : covE ps qs
  · have Hr := Lib.hid (show coversB ps qs = covA ps qs by rw [hres, e1, e2, e3]; simp)
    rw [e3] at H3
    clear e1 e2 e3 hres h4
    go_enter Tryd.func44, Tryd.ntmps44
    go_wp2_with fail
    refine h1.mono ?_
    rintro e w1 ⟨rfl, f1⟩
    go_wp2_with fail
    refine (H2.out _ f1).mono ?_
    rintro e w2 ⟨rfl, f2⟩
    go_wp2_with fail
    refine (H3.out _ (f1.trans f2)).mono ?_
    rintro e w3 ⟨rfl, f3⟩
    go_wp2_with fail
    refine (H4.out _ ((f1.trans f2).trans f3)).mono ?_
    rintro e w4 ⟨rfl, f4⟩
    go_wp2_with fail
    go_ret
    exact ⟨ret_bool Hr.out.symm, ((f1.trans f2).trans f3).trans f4⟩
  · have Hr := Lib.hid (show coversB ps qs = true by rw [hres, e1, e2, e3]; simp)
    rw [e3] at H3
    clear e1 e2 e3 hres h4
    go_enter Tryd.func44, Tryd.ntmps44
    go_wp2_with fail
    refine h1.mono ?_
    rintro e w1 ⟨rfl, f1⟩
    go_wp2_with fail
    refine (H2.out _ f1).mono ?_
    rintro e w2 ⟨rfl, f2⟩
    go_wp2_with fail
    refine (H3.out _ (f1.trans f2)).mono ?_
    rintro e w3 ⟨rfl, f3⟩
    go_wp2_with fail
    go_ret
    exact ⟨ret_bool Hr.out.symm, (f1.trans f2).trans f3⟩
end Go.Proofs.YtgnjakaamgeibaaDoor
