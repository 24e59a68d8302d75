/-
  Covers: what the reference does. Printed by wip/rcov.py. Conditions: the pieces lie in memory, their texts within reach.
-/
import Derived.Test.YtgnjakaamgeibaaDoorRRgt
import Derived.Test.YtgnjakaamgeibaaDoorCov2
namespace Go.Proofs.YtgnjakaamgeibaaDoor
open Go.RowKit Go.Shelf
attribute [local go_sem] Oper.semAt_some

set_option maxRecDepth 100000 in
set_option maxHeartbeats 16000000 in
theorem rcovers_any {v v' : Value} {ps qs : List Pc} (w : World) (hP : Pcs w v ps) (hQ : Pcs w v' qs) (hs : Small ps) (hs' : Small qs) (hn : ps.length ≤ 1000) (hn' : qs.length ≤ 1000) :
    Calls Tryd.prog 45 #[v, v'] w fun e w' => e = .returned (.bool (coversB ps qs)) ∧ Frm (fun _ => False) w w' := by
  have h1 := rright_any w hP hs hn
  have h2 : ∀ w1, Frm (fun _ => False) w w1 → Calls Tryd.prog 37 #[v'] w1 fun e w' => e = .returned (.bool (rightB qs)) ∧ Frm (fun _ => False) w1 w' := fun w1 f => rright_any w1 (hQ.still f) hs' hn'
  obtain ⟨ao, cap, rfl⟩ := hP.form
  obtain ⟨bo, cap', rfl⟩ := hQ.form
  have hres : coversB ps qs = (rightB ps && rightB qs && (covE ps qs || covA ps qs)) := rfl
  have H2 := Lib.hid h2
  have HP := Lib.hid hP
  have HQ := Lib.hid hQ
  have HS := Lib.hid hs
  have HS' := Lib.hid hs'
  clear hP hQ h2 hs hs'
  cases e1 : rightB ps
  · have Hr := Lib.hid (show coversB ps qs = false by rw [hres, e1]; rfl)
    rw [e1] at h1
    clear e1 hres
    go_enter Tryd.func45, Tryd.ntmps45
    go_wp2_with fail
    refine h1.mono ?_
    rintro e w1 ⟨rfl, f1⟩
    go_wp2_with fail
    go_ret
    exact ⟨ret_bool Hr.out.symm, f1⟩
  rw [e1] at h1
  cases e2 : rightB qs
  · have Hr := Lib.hid (show coversB ps qs = false by rw [hres, e1, e2]; rfl)
    rw [e2] at H2
    clear e1 e2 hres
    go_enter Tryd.func45, Tryd.ntmps45
    go_wp2_with fail
    refine h1.mono ?_
    rintro e w1 ⟨rfl, f1⟩
    go_wp2_with fail
    refine (H2.out _ f1).mono ?_
    rintro e w2 ⟨rfl, f2⟩
    go_wp2_with fail
    go_ret
    exact ⟨ret_bool Hr.out.symm, f1.trans f2⟩
  rw [e2] at H2
  have Hp := Lib.hid (right_mem e1)
  have Hq := Lib.hid (right_mem e2)
  have Hcv := Lib.hid (show coversB ps qs = (covE ps qs || covA ps qs) by rw [hres, e1, e2]; rfl)
  clear e1 e2 hres
  have hstart : ∃ b : Bool, ((ps.length : Int) == (qs.length : Int)) = b ∧ (b = true → ps.length = qs.length) ∧ (b = false → covE ps qs = false) := ⟨_, rfl, fun h => by rw [beq_iff_eq] at h; omega, fun h => by rw [beq_eq_false_iff_ne] at h; exact covE_len (by omega)⟩
  obtain ⟨b0, hb0, hbt, hbf⟩ := hstart
  have Hbt := Lib.hid hbt
  have Hbf := Lib.hid hbf
  clear hbt hbf
  go_enter Tryd.func45, Tryd.ntmps45
  go_wp2_with fail
  refine h1.mono ?_
  rintro e w1 ⟨rfl, f1⟩
  go_wp2_with fail
  refine (H2.out _ f1).mono ?_
  rintro e w2 ⟨rfl, f2⟩
  have Hf0 := Lib.hid (f1.trans f2)
  clear f1 f2 h1 H2
  go_wp2_with fail
  go_loopw [5, 6] (fun sb sk wr => ∃ (k : Nat) (b : Bool), sb = .bool b ∧ sk = .int .i64 k ∧ k ≤ ps.length ∧ Hid (b = true → ps.length = qs.length ∧ covE ps qs = covE (ps.drop k) (qs.drop k)) ∧ Hid (b = false → covE ps qs = false) ∧ Frm (fun _ => False) w wr) (fun _ sk _ => ps.length - (intOf sk).toNat)
  case atStart => exact ⟨0, b0, rfl, rfl, Nat.zero_le _, fun h => ⟨Hbt.out h, rfl⟩, Hbf.out, Hf0.out⟩
  case round =>
    obtain ⟨k, b, rfl, rfl, hk, hbt, hbf, hf⟩ := hrel
    clear Hbt Hbf Hf0 hb0
    cases b
    · have hfalse := hbf.out rfl
      clear hbt hbf
      by_cases hlt : k < ps.length
      · have Hb := Lib.hid hfalse
        have Hf := Lib.hid hf
        clear hfalse hf
        by_cases hl : ps.length = 1
        · obtain ⟨a, rfl⟩ := List.length_eq_one_iff.1 hl
          obtain ⟨g, rfl, ⟨a0, a1, a2, a3⟩, hg⟩ := (HP.out.still Hf.out).at' 0 (by simp)
          simp only [Nat.zero_mul, Nat.zero_add, List.getElem_cons_zero] at a0 a1 a2 a3
          simp only [List.length_singleton] at *
          have hA : coversB [a] qs = if a.cls = 0 then false else qs.all (fun b => belB b a.cls) && (decide (a.lo ≤ sumL leastP qs) && decide (min 200 (sumL mostP qs) ≤ a.hi)) := by
            rw [Hcv.out, Hb.out]; rfl
          by_cases hc : a.cls = 0
          · rw [if_pos hc] at hA
            have t0 : (a.cls == 0) = true := by rw [hc]; rfl
            have HA := Lib.hid hA
            clear hA hc
            go_wp2_with fail
            go_ret
            exact ⟨ret_bool HA.out.symm, Hf.out⟩
          · rw [if_neg hc] at hA
            have t0 : (a.cls == 0) = false := by rw [beq_eq_false_iff_ne]; exact hc
            have HA := Lib.hid hA
            clear hA hc
            go_wp2_with fail
            go_loopw [7, 8, 9] (fun sl sm sk wq => ∃ k : Nat, sk = .int .i64 k ∧ k ≤ qs.length ∧ sl = .int .i64 (sumL leastP (qs.take k)) ∧ sm = .int .i64 (sumL mostP (qs.take k)) ∧ Hid ((qs.take k).all (fun b => belB b a.cls) = true) ∧ Hid (0 ≤ sumL leastP (qs.take k) ∧ sumL leastP (qs.take k) ≤ 1000000 * k ∧ 0 ≤ sumL mostP (qs.take k) ∧ sumL mostP (qs.take k) ≤ 1000000 * k) ∧ Frm (fun _ => False) wr wq) (fun _ _ sk _ => qs.length - (intOf sk).toNat)
            case atStart => exact ⟨0, rfl, Nat.zero_le _, rfl, rfl, by show _ = _; rfl, by show _ ∧ _; rw [List.take_zero]; decide, Frm.refl _ _⟩
            case round =>
              obtain ⟨k, rfl, hk, rfl, rfl, hall, hbd, hf⟩ := hrel
              by_cases hlt : k < qs.length
              · obtain ⟨g', rfl, ⟨c0, c1, c2, c3⟩, hg'⟩ := (HQ.out.still (Hf.out.trans hf)).at' k hlt
                have hpl := piece_len (Hq.out _ (List.getElem_mem hlt)) (HS'.out.at hlt)
                have hpb := Hq.out _ (List.getElem_mem hlt)
                have hts := HS'.out.at hlt
                have htk : ∀ f : Pc → Int, sumL f (qs.take (k + 1)) = sumL f (qs.take k) + f qs[k] := fun f => by
                  rw [List.take_succ_eq_append_getElem hlt, sum_snoc]
                have htl := htk leastP
                have htm := htk mostP
                have hta : (qs.take (k + 1)).all (fun b => belB b a.cls) = belB qs[k] a.cls := by
                  rw [List.take_succ_eq_append_getElem hlt, List.all_append, hall.out]
                  simp
                have hno : belB qs[k] a.cls = false → qs.all (fun b => belB b a.cls) = false := fun h => by
                  rw [Bool.eq_false_iff]
                  intro h2
                  rw [List.all_eq_true] at h2
                  have := h2 _ (List.getElem_mem hlt)
                  rw [h] at this
                  cases this
                have a0 := hf.cell a0 (fun h => h)
                have Hf2 := Lib.hid hf
                clear hf a1 a2 a3
                generalize qs[k] = q at *
                generalize sumL leastP (qs.take k) = L at *
                generalize sumL mostP (qs.take k) = M at *
                obtain ⟨qc, ql, qh, qt⟩ := q
                have hb := hbd.out
                have hb2 : 0 ≤ L + leastP ⟨qc, ql, qh, qt⟩ ∧ L + leastP ⟨qc, ql, qh, qt⟩ ≤ 1000000 * (k + 1 : Nat) ∧ 0 ≤ M + mostP ⟨qc, ql, qh, qt⟩ ∧ M + mostP ⟨qc, ql, qh, qt⟩ ≤ 1000000 * (k + 1 : Nat) := by omega
                have hfl : 0 ≤ L + leastP ⟨qc, ql, qh, qt⟩ ∧ L + leastP ⟨qc, ql, qh, qt⟩ ≤ 2000000000 := by omega
                have hfm : 0 ≤ M + mostP ⟨qc, ql, qh, qt⟩ ∧ M + mostP ⟨qc, ql, qh, qt⟩ ≤ 2000000000 := by omega
                obtain ⟨fl0, fl1⟩ := hfl
                obtain ⟨fm0, fm1⟩ := hfm
                have Hb2 := Lib.hid hb2
                have Hta := Lib.hid hta
                have Htl := Lib.hid htl
                have Htm := Lib.hid htm
                have Hno := Lib.hid hno
                clear hall hbd hta htl htm htk hno hb hb2 hpl
                simp only at c0 c1 c2 c3 hts
                by_cases hqc : qc = 0
                · subst hqc
                  have e1 : leastP ⟨0, ql, qh, qt⟩ = (qt.size : Int) := by unfold leastP; rw [if_pos rfl]; show ((qt.data.toList.length : Nat) : Int) = _; rw [size_list]
                  have e2 : mostP ⟨0, ql, qh, qt⟩ = (qt.size : Int) := by unfold mostP; rw [if_pos rfl]; show ((qt.data.toList.length : Nat) : Int) = _; rw [size_list]
                  have e3 : belB ⟨0, ql, qh, qt⟩ a.cls = consB qt.data.toList a.cls := by unfold belB; rw [if_pos rfl]
                  have e4 : allR qt.data.toList a.cls = consB qt.data.toList a.cls := by
                    unfold pieceB at hpb
                    rw [if_pos rfl] at hpb
                    simp only [Bool.and_eq_true] at hpb
                    exact allR_cons hpb.2 _
                  rw [e1] at fl0 fl1 Hb2 Htl
                  rw [e2] at fm0 fm1 Hb2 Htm
                  rw [e3] at Hta Hno
                  have hcal := rall_any qt (by omega) a.cls
                  rw [e4] at hcal
                  have Hcal := Lib.hid hcal
                  clear e1 e2 e3 e4 hpb hcal
                  go_upto_region 18 with fail
                  go_region_held3 (fun w' => w'.cell? ⟨g', k * 4 + 3, none⟩ = some (.string qt) ∧ w'.cell? ⟨g, 0, none⟩ = some (.int .i64 a.cls))
                    (first | exact ⟨c3, a0⟩ | exact ⟨c3', a0'⟩)
                    (first | (go_at_call 91; refine (Hcal.out _).mono ?_; rintro e w7 ⟨rfl, f7⟩; have f7 : Frm (fun _ => False) wr w7 := f7 ▸ (Frm.refl _ _).drew; have c3' := f7.cell c3 (fun h => h); have a0' := f7.cell a0 (fun h => h)))
                  have c3 := f7.cell c3 (fun h => h)
                  have Hf3 := Lib.hid (Hf2.out.trans f7)
                  clear f7 c0 c1 c2 a0
                  cases hbl : consB qt.data.toList a.cls
                  · have hres := Lib.hid (show coversB [a] qs = false by rw [HA.out, Hno.out hbl]; rfl)
                    go_wp2_with fail
                    go_ret
                    exact ⟨ret_bool hres.out.symm, Hf.out.trans Hf3.out⟩
                  · go_wp2_with fail
                    go_roundw
                    case rel => exact ⟨k + 1, by go_num, hlt, by rw [Htl.out], by rw [Htm.out], by show _ = _; rw [Hta.out, hbl], by show _ ∧ _; rw [Htl.out, Htm.out]; exact Hb2.out, Hf3.out⟩
                    case measure => simp [intOf]; omega
                · have t1 : (qc == 0) = false := by rw [beq_eq_false_iff_ne]; exact hqc
                  have e1 : leastP ⟨qc, ql, qh, qt⟩ = ql := by unfold leastP; rw [if_neg hqc]
                  have e2 : mostP ⟨qc, ql, qh, qt⟩ = qh := by unfold mostP; rw [if_neg hqc]
                  have e3 : belB ⟨qc, ql, qh, qt⟩ a.cls = insB qc a.cls := by unfold belB; rw [if_neg hqc]
                  rw [e1] at fl0 fl1 Hb2 Htl
                  rw [e2] at fm0 fm1 Hb2 Htm
                  rw [e3] at Hta Hno
                  have hcal := contained_any qc a.cls
                  have Hcal := Lib.hid hcal
                  clear e1 e2 e3 hpb hcal hqc
                  go_upto_region 22 with fail
                  go_region_held3 (fun w' => w'.cell? ⟨g', k * 4, none⟩ = some (.int .i64 qc) ∧ w'.cell? ⟨g, 0, none⟩ = some (.int .i64 a.cls))
                    (first | exact ⟨c0, a0⟩ | exact ⟨c0', a0'⟩)
                    (first | (go_at_call 92; refine (Hcal.out _).mono ?_; rintro e w7 ⟨rfl, f7⟩; have f7 : Frm (fun _ => False) wr w7 := f7 ▸ (Frm.refl _ _).drew; have c0' := f7.cell c0 (fun h => h); have a0' := f7.cell a0 (fun h => h)))
                  have c1 := f7.cell c1 (fun h => h)
                  have c2 := f7.cell c2 (fun h => h)
                  have Hf3 := Lib.hid (Hf2.out.trans f7)
                  clear f7 c0 c3 a0
                  cases hbl : insB qc a.cls
                  · have hres := Lib.hid (show coversB [a] qs = false by rw [HA.out, Hno.out hbl]; rfl)
                    go_wp2_with fail
                    go_ret
                    exact ⟨ret_bool hres.out.symm, Hf.out.trans Hf3.out⟩
                  · go_wp2_with fail
                    go_roundw
                    case rel => exact ⟨k + 1, by go_num, hlt, by rw [Htl.out], by rw [Htm.out], by show _ = _; rw [Hta.out, hbl], by show _ ∧ _; rw [Htl.out, Htm.out]; exact Hb2.out, Hf3.out⟩
                    case measure => simp [intOf]; omega
              · obtain rfl : k = qs.length := by omega
                have a0 := hf.cell a0 (fun h => h)
                have a1 := hf.cell a1 (fun h => h)
                have a2 := hf.cell a2 (fun h => h)
                have hres : coversB [a] qs = (decide (a.lo ≤ sumL leastP qs) && decide (min 200 (sumL mostP qs) ≤ a.hi)) := by
                  rw [HA.out]
                  have := hall.out
                  rw [List.take_length] at this
                  rw [this]; rfl
                have hb := hbd.out
                rw [List.take_length] at hb ⊢
                generalize sumL leastP qs = L at *
                generalize sumL mostP qs = M at *
                have Hres := Lib.hid hres
                have Hf4 := Lib.hid (Hf.out.trans hf)
                clear hres hb hbd hall hlt hf
                by_cases h1 : a.lo ≤ L
                · have e1 := Lib.hid (decide_eq_true h1)
                  by_cases h2 : (200 : Int) ≤ M
                  · have e2 := Lib.hid (Int.min_eq_left h2)
                    go_wp2_with fail
                    go_ret
                    exact ⟨ret_bool (by first | (rw [Hres.out, e1.out, e2.out]; rfl) | (rw [Hres.out, e1.out, Int.min_comm]; rfl)), Hf4.out⟩
                  · have e2 := Lib.hid (Int.min_eq_right (show M ≤ 200 by omega))
                    go_wp2_with fail
                    go_ret
                    exact ⟨ret_bool (by first | (rw [Hres.out, e1.out, e2.out]; rfl) | (rw [Hres.out, e1.out, Int.min_comm]; rfl)), Hf4.out⟩
                · have e1 := Lib.hid (decide_eq_false h1)
                  go_wp2_with fail
                  go_ret
                  exact ⟨ret_bool (by rw [Hres.out, e1.out]; rfl), Hf4.out⟩
        · have hbeq : ((ps.length : Int) != 1) = true := by rw [bne_iff_ne]; omega
          have hres := Lib.hid (show coversB ps qs = false by rw [Hcv.out, Hb.out, covA_no hl]; rfl)
          clear hl
          go_wp2_with fail
          go_ret
          exact ⟨ret_bool hres.out.symm, Hf.out⟩
      · have hend : ¬ ((k : Int) < (ps.length : Int)) := by omega
        have Hb := Lib.hid hfalse
        have Hf := Lib.hid hf
        clear hfalse hf
        by_cases hl : ps.length = 1
        · obtain ⟨a, rfl⟩ := List.length_eq_one_iff.1 hl
          obtain ⟨g, rfl, ⟨a0, a1, a2, a3⟩, hg⟩ := (HP.out.still Hf.out).at' 0 (by simp)
          simp only [Nat.zero_mul, Nat.zero_add, List.getElem_cons_zero] at a0 a1 a2 a3
          simp only [List.length_singleton] at *
          have hA : coversB [a] qs = if a.cls = 0 then false else qs.all (fun b => belB b a.cls) && (decide (a.lo ≤ sumL leastP qs) && decide (min 200 (sumL mostP qs) ≤ a.hi)) := by
            rw [Hcv.out, Hb.out]; rfl
          by_cases hc : a.cls = 0
          · rw [if_pos hc] at hA
            have t0 : (a.cls == 0) = true := by rw [hc]; rfl
            have HA := Lib.hid hA
            clear hA hc
            go_wp2_with fail
            go_ret
            exact ⟨ret_bool HA.out.symm, Hf.out⟩
          · rw [if_neg hc] at hA
            have t0 : (a.cls == 0) = false := by rw [beq_eq_false_iff_ne]; exact hc
            have HA := Lib.hid hA
            clear hA hc
            go_wp2_with fail
            go_loopw [7, 8, 9] (fun sl sm sk wq => ∃ k : Nat, sk = .int .i64 k ∧ k ≤ qs.length ∧ sl = .int .i64 (sumL leastP (qs.take k)) ∧ sm = .int .i64 (sumL mostP (qs.take k)) ∧ Hid ((qs.take k).all (fun b => belB b a.cls) = true) ∧ Hid (0 ≤ sumL leastP (qs.take k) ∧ sumL leastP (qs.take k) ≤ 1000000 * k ∧ 0 ≤ sumL mostP (qs.take k) ∧ sumL mostP (qs.take k) ≤ 1000000 * k) ∧ Frm (fun _ => False) wr wq) (fun _ _ sk _ => qs.length - (intOf sk).toNat)
            case atStart => exact ⟨0, rfl, Nat.zero_le _, rfl, rfl, by show _ = _; rfl, by show _ ∧ _; rw [List.take_zero]; decide, Frm.refl _ _⟩
            case round =>
              obtain ⟨k, rfl, hk, rfl, rfl, hall, hbd, hf⟩ := hrel
              by_cases hlt : k < qs.length
              · obtain ⟨g', rfl, ⟨c0, c1, c2, c3⟩, hg'⟩ := (HQ.out.still (Hf.out.trans hf)).at' k hlt
                have hpl := piece_len (Hq.out _ (List.getElem_mem hlt)) (HS'.out.at hlt)
                have hpb := Hq.out _ (List.getElem_mem hlt)
                have hts := HS'.out.at hlt
                have htk : ∀ f : Pc → Int, sumL f (qs.take (k + 1)) = sumL f (qs.take k) + f qs[k] := fun f => by
                  rw [List.take_succ_eq_append_getElem hlt, sum_snoc]
                have htl := htk leastP
                have htm := htk mostP
                have hta : (qs.take (k + 1)).all (fun b => belB b a.cls) = belB qs[k] a.cls := by
                  rw [List.take_succ_eq_append_getElem hlt, List.all_append, hall.out]
                  simp
                have hno : belB qs[k] a.cls = false → qs.all (fun b => belB b a.cls) = false := fun h => by
                  rw [Bool.eq_false_iff]
                  intro h2
                  rw [List.all_eq_true] at h2
                  have := h2 _ (List.getElem_mem hlt)
                  rw [h] at this
                  cases this
                have a0 := hf.cell a0 (fun h => h)
                have Hf2 := Lib.hid hf
                clear hf a1 a2 a3
                generalize qs[k] = q at *
                generalize sumL leastP (qs.take k) = L at *
                generalize sumL mostP (qs.take k) = M at *
                obtain ⟨qc, ql, qh, qt⟩ := q
                have hb := hbd.out
                have hb2 : 0 ≤ L + leastP ⟨qc, ql, qh, qt⟩ ∧ L + leastP ⟨qc, ql, qh, qt⟩ ≤ 1000000 * (k + 1 : Nat) ∧ 0 ≤ M + mostP ⟨qc, ql, qh, qt⟩ ∧ M + mostP ⟨qc, ql, qh, qt⟩ ≤ 1000000 * (k + 1 : Nat) := by omega
                have hfl : 0 ≤ L + leastP ⟨qc, ql, qh, qt⟩ ∧ L + leastP ⟨qc, ql, qh, qt⟩ ≤ 2000000000 := by omega
                have hfm : 0 ≤ M + mostP ⟨qc, ql, qh, qt⟩ ∧ M + mostP ⟨qc, ql, qh, qt⟩ ≤ 2000000000 := by omega
                obtain ⟨fl0, fl1⟩ := hfl
                obtain ⟨fm0, fm1⟩ := hfm
                have Hb2 := Lib.hid hb2
                have Hta := Lib.hid hta
                have Htl := Lib.hid htl
                have Htm := Lib.hid htm
                have Hno := Lib.hid hno
                clear hall hbd hta htl htm htk hno hb hb2 hpl
                simp only at c0 c1 c2 c3 hts
                by_cases hqc : qc = 0
                · subst hqc
                  have e1 : leastP ⟨0, ql, qh, qt⟩ = (qt.size : Int) := by unfold leastP; rw [if_pos rfl]; show ((qt.data.toList.length : Nat) : Int) = _; rw [size_list]
                  have e2 : mostP ⟨0, ql, qh, qt⟩ = (qt.size : Int) := by unfold mostP; rw [if_pos rfl]; show ((qt.data.toList.length : Nat) : Int) = _; rw [size_list]
                  have e3 : belB ⟨0, ql, qh, qt⟩ a.cls = consB qt.data.toList a.cls := by unfold belB; rw [if_pos rfl]
                  have e4 : allR qt.data.toList a.cls = consB qt.data.toList a.cls := by
                    unfold pieceB at hpb
                    rw [if_pos rfl] at hpb
                    simp only [Bool.and_eq_true] at hpb
                    exact allR_cons hpb.2 _
                  rw [e1] at fl0 fl1 Hb2 Htl
                  rw [e2] at fm0 fm1 Hb2 Htm
                  rw [e3] at Hta Hno
                  have hcal := rall_any qt (by omega) a.cls
                  rw [e4] at hcal
                  have Hcal := Lib.hid hcal
                  clear e1 e2 e3 e4 hpb hcal
                  go_upto_region 18 with fail
                  go_region_held3 (fun w' => w'.cell? ⟨g', k * 4 + 3, none⟩ = some (.string qt) ∧ w'.cell? ⟨g, 0, none⟩ = some (.int .i64 a.cls))
                    (first | exact ⟨c3, a0⟩ | exact ⟨c3', a0'⟩)
                    (first | (go_at_call 91; refine (Hcal.out _).mono ?_; rintro e w7 ⟨rfl, f7⟩; have f7 : Frm (fun _ => False) wr w7 := f7 ▸ (Frm.refl _ _).drew; have c3' := f7.cell c3 (fun h => h); have a0' := f7.cell a0 (fun h => h)))
                  have c3 := f7.cell c3 (fun h => h)
                  have Hf3 := Lib.hid (Hf2.out.trans f7)
                  clear f7 c0 c1 c2 a0
                  cases hbl : consB qt.data.toList a.cls
                  · have hres := Lib.hid (show coversB [a] qs = false by rw [HA.out, Hno.out hbl]; rfl)
                    go_wp2_with fail
                    go_ret
                    exact ⟨ret_bool hres.out.symm, Hf.out.trans Hf3.out⟩
                  · go_wp2_with fail
                    go_roundw
                    case rel => exact ⟨k + 1, by go_num, hlt, by rw [Htl.out], by rw [Htm.out], by show _ = _; rw [Hta.out, hbl], by show _ ∧ _; rw [Htl.out, Htm.out]; exact Hb2.out, Hf3.out⟩
                    case measure => simp [intOf]; omega
                · have t1 : (qc == 0) = false := by rw [beq_eq_false_iff_ne]; exact hqc
                  have e1 : leastP ⟨qc, ql, qh, qt⟩ = ql := by unfold leastP; rw [if_neg hqc]
                  have e2 : mostP ⟨qc, ql, qh, qt⟩ = qh := by unfold mostP; rw [if_neg hqc]
                  have e3 : belB ⟨qc, ql, qh, qt⟩ a.cls = insB qc a.cls := by unfold belB; rw [if_neg hqc]
                  rw [e1] at fl0 fl1 Hb2 Htl
                  rw [e2] at fm0 fm1 Hb2 Htm
                  rw [e3] at Hta Hno
                  have hcal := contained_any qc a.cls
                  have Hcal := Lib.hid hcal
                  clear e1 e2 e3 hpb hcal hqc
                  go_upto_region 22 with fail
                  go_region_held3 (fun w' => w'.cell? ⟨g', k * 4, none⟩ = some (.int .i64 qc) ∧ w'.cell? ⟨g, 0, none⟩ = some (.int .i64 a.cls))
                    (first | exact ⟨c0, a0⟩ | exact ⟨c0', a0'⟩)
                    (first | (go_at_call 92; refine (Hcal.out _).mono ?_; rintro e w7 ⟨rfl, f7⟩; have f7 : Frm (fun _ => False) wr w7 := f7 ▸ (Frm.refl _ _).drew; have c0' := f7.cell c0 (fun h => h); have a0' := f7.cell a0 (fun h => h)))
                  have c1 := f7.cell c1 (fun h => h)
                  have c2 := f7.cell c2 (fun h => h)
                  have Hf3 := Lib.hid (Hf2.out.trans f7)
                  clear f7 c0 c3 a0
                  cases hbl : insB qc a.cls
                  · have hres := Lib.hid (show coversB [a] qs = false by rw [HA.out, Hno.out hbl]; rfl)
                    go_wp2_with fail
                    go_ret
                    exact ⟨ret_bool hres.out.symm, Hf.out.trans Hf3.out⟩
                  · go_wp2_with fail
                    go_roundw
                    case rel => exact ⟨k + 1, by go_num, hlt, by rw [Htl.out], by rw [Htm.out], by show _ = _; rw [Hta.out, hbl], by show _ ∧ _; rw [Htl.out, Htm.out]; exact Hb2.out, Hf3.out⟩
                    case measure => simp [intOf]; omega
              · obtain rfl : k = qs.length := by omega
                have a0 := hf.cell a0 (fun h => h)
                have a1 := hf.cell a1 (fun h => h)
                have a2 := hf.cell a2 (fun h => h)
                have hres : coversB [a] qs = (decide (a.lo ≤ sumL leastP qs) && decide (min 200 (sumL mostP qs) ≤ a.hi)) := by
                  rw [HA.out]
                  have := hall.out
                  rw [List.take_length] at this
                  rw [this]; rfl
                have hb := hbd.out
                rw [List.take_length] at hb ⊢
                generalize sumL leastP qs = L at *
                generalize sumL mostP qs = M at *
                have Hres := Lib.hid hres
                have Hf4 := Lib.hid (Hf.out.trans hf)
                clear hres hb hbd hall hlt hf
                by_cases h1 : a.lo ≤ L
                · have e1 := Lib.hid (decide_eq_true h1)
                  by_cases h2 : (200 : Int) ≤ M
                  · have e2 := Lib.hid (Int.min_eq_left h2)
                    go_wp2_with fail
                    go_ret
                    exact ⟨ret_bool (by first | (rw [Hres.out, e1.out, e2.out]; rfl) | (rw [Hres.out, e1.out, Int.min_comm]; rfl)), Hf4.out⟩
                  · have e2 := Lib.hid (Int.min_eq_right (show M ≤ 200 by omega))
                    go_wp2_with fail
                    go_ret
                    exact ⟨ret_bool (by first | (rw [Hres.out, e1.out, e2.out]; rfl) | (rw [Hres.out, e1.out, Int.min_comm]; rfl)), Hf4.out⟩
                · have e1 := Lib.hid (decide_eq_false h1)
                  go_wp2_with fail
                  go_ret
                  exact ⟨ret_bool (by rw [Hres.out, e1.out]; rfl), Hf4.out⟩
        · have hbeq : ((ps.length : Int) != 1) = true := by rw [bne_iff_ne]; omega
          have hres := Lib.hid (show coversB ps qs = false by rw [Hcv.out, Hb.out, covA_no hl]; rfl)
          clear hl
          go_wp2_with fail
          go_ret
          exact ⟨ret_bool hres.out.symm, Hf.out⟩
    · obtain ⟨hle, hcov⟩ := hbt.out rfl
      by_cases hlt : k < ps.length
      · have hlq : k < qs.length := by rw [← hle]; exact hlt
        obtain ⟨g, rfl, ⟨c0, c1, c2, c3⟩, hg⟩ := (HP.out.still hf).at' k hlt
        obtain ⟨g', rfl, ⟨d0, d1, d2, d3⟩, hg'⟩ := (HQ.out.still hf).at' k hlq
        have hst := covE_step hlt hlq
        have hcp := rcovP_any ps[k] qs[k] (Hp.out _ (List.getElem_mem hlt)) (Hq.out _ (List.getElem_mem hlq)) (by have := HS.out.at hlt; omega) (by have := HS'.out.at hlq; omega)
        rw [← hcov] at hst
        have Hst := Lib.hid hst
        have Hcp := Lib.hid hcp
        have Hf := Lib.hid hf
        have Hle := Lib.hid hle
        clear hst hbt hbf hcp hf hle hcov
        generalize ps[k] = p at *
        generalize qs[k] = q at *
        unfold pcV at Hcp
        go_upto_region 7 with fail
        go_region_held3 (fun w' => w'.cell? ⟨g, k * 4, none⟩ = some (.int .i64 p.cls) ∧ w'.cell? ⟨g, k * 4 + 1, none⟩ = some (.int .i64 p.lo) ∧ w'.cell? ⟨g, k * 4 + 2, none⟩ = some (.int .i64 p.hi) ∧ w'.cell? ⟨g, k * 4 + 3, none⟩ = some (.string p.txt) ∧ w'.cell? ⟨g', k * 4, none⟩ = some (.int .i64 q.cls) ∧ w'.cell? ⟨g', k * 4 + 1, none⟩ = some (.int .i64 q.lo) ∧ w'.cell? ⟨g', k * 4 + 2, none⟩ = some (.int .i64 q.hi) ∧ w'.cell? ⟨g', k * 4 + 3, none⟩ = some (.string q.txt))
          (first | exact ⟨c0, c1, c2, c3, d0, d1, d2, d3⟩ | exact ⟨c0', c1', c2', c3', d0', d1', d2', d3'⟩)
          (first | (go_at_call 90; refine (Hcp.out _).mono ?_; rintro e w7 ⟨rfl, f7⟩; have c0' := f7.cell c0 (fun h => h); have c1' := f7.cell c1 (fun h => h); have c2' := f7.cell c2 (fun h => h); have c3' := f7.cell c3 (fun h => h); have d0' := f7.cell d0 (fun h => h); have d1' := f7.cell d1 (fun h => h); have d2' := f7.cell d2 (fun h => h); have d3' := f7.cell d3 (fun h => h)))
        have Hf2 := Lib.hid (Hf.out.drew.trans f7)
        have hn1 : Hid (covP p q = true → ps.length = qs.length ∧ covE ps qs = covE (ps.drop (k + 1)) (qs.drop (k + 1))) := fun h => ⟨Hle.out, by rw [Hst.out, h]; rfl⟩
        have hn2 : Hid (covP p q = false → covE ps qs = false) := fun h => by rw [Hst.out, h]; rfl
        go_wp2_with fail
        go_roundw
        case rel => exact ⟨k + 1, covP p q, rfl, by go_num, hlt, hn1, hn2, Hf2.out⟩
        case measure => simp [intOf]; omega
      · obtain rfl : k = ps.length := by omega
        have hr := Lib.hid (show coversB ps qs = true by rw [Hcv.out, hcov, List.drop_length, List.drop_eq_nil_of_le (by rw [hle]; exact Nat.le_refl _)]; rfl)
        clear hbt hbf hcov hlt
        go_wp2_with fail
        go_ret
        exact ⟨ret_bool hr.out.symm, hf⟩
end Go.Proofs.YtgnjakaamgeibaaDoor
