/-
  Right patterns: the reference's Right and Print. Conditions: the pieces lie in memory, their texts within reach.
-/
import Derived.Test.YtgnjakaamgeibaaDoorRWrt
import Derived.Test.YtgnjakaamgeibaaDoorRgt
namespace Go.Proofs.YtgnjakaamgeibaaDoor
open Go.RowKit Go.Shelf
attribute [local go_sem] Oper.semAt_some

set_option maxRecDepth 100000 in
set_option maxHeartbeats 8000000 in
theorem rright_any {v : Value} {ps : List Pc} (w : World) (hP : Pcs w v ps) (hs : Small ps) (hn : ps.length ≤ 1000) :
    Calls Tryd.prog 37 #[v] w fun e w' => e = .returned (.bool (rightB ps)) ∧ Frm (fun _ => False) w w' := by
  obtain ⟨ao, cap, rfl⟩ := hP.form
  have HP := Lib.hid hP
  have HS := Lib.hid hs
  clear hP hs
  go_enter Tryd.func37, Tryd.ntmps37
  go_wp2_with fail
  go_loopw [3] (fun sk wr => ∃ k : Nat, sk = .int .i64 k ∧ k ≤ ps.length ∧ Hid (pcsB false ps = pcsB (prevB ps k) (ps.drop k)) ∧ Frm (fun _ => False) w wr) (fun sk _ => ps.length - (intOf sk).toNat)
  case atStart => exact ⟨0, rfl, Nat.zero_le _, by show _ = _; rfl, Frm.refl _ _⟩
  case round =>
    obtain ⟨k, rfl, hk, hb, hf⟩ := hrel
    by_cases hlt : k < ps.length
    · obtain ⟨g, rfl, ⟨c0, c1, c2, c3⟩, hg⟩ := (HP.out.still hf).at' k hlt
      have hst := pcs_step hlt
      rw [← hb.out] at hst
      have hsk := HS.out.at hlt
      have hpv := prev_succ hlt
      have hrf : pcsB false ps = false → rightB ps = false := fun h => by unfold rightB; rw [h]; rfl
      have Hrf := Lib.hid hrf
      have Hst := Lib.hid hst
      have Hpv := Lib.hid hpv
      clear hst hb hrf hpv
      have hprev1 : ∀ j, k = j + 1 → ∃ q : Pc, prevB ps k = decide (q.cls = 0) ∧ PcAt wr g (j * 4) q := by
        rintro j rfl
        obtain ⟨g', e1, e2, -⟩ := (HP.out.still hf).at' j (by omega)
        injection e1 with e1
        injection e1 with e1
        exact ⟨_, prev_succ (by omega), by rw [e1]; exact e2⟩
      generalize hpk : ps[k] = p at c0 c1 c2 c3 hsk Hst Hpv
      clear hpk
      have hpa := piece_any p (by omega) wr
      unfold pcV at hpa
      go_wp2_with fail
      refine hpa.mono ?_
      rintro e w2 ⟨rfl, hf2⟩
      have hf3 := hf.trans hf2
      have d0 := hf2.cell c0 (fun h => h)
      clear hpa c0 c1 c2 c3
      have Hf3 := Lib.hid hf3
      cases hpb : pieceB p
      · have hres := Hrf.out (by rw [Hst.out, hpb]; rfl)
        have Hres := Lib.hid hres
        clear hres hprev1 hf hf2 hf3
        go_wp2_with fail
        go_ret
        exact ⟨by rw [Hres.out]; rfl, Hf3.out⟩
      cases k with
      | zero =>
        have hnx : Hid (pcsB false ps = pcsB (prevB ps (0 + 1)) (ps.drop (0 + 1))) := by
          show _ = _
          rw [Hst.out, hpb, prevB]; rfl
        clear hprev1 hf hf2 hf3
        go_wp2_with fail
        go_roundw
        case rel => exact ⟨1, rfl, hlt, hnx, Hf3.out⟩
        case measure => simp [intOf]; omega
      | succ j =>
        obtain ⟨q, hq, hqa⟩ := hprev1 j rfl
        have hqa := hqa.still hf2
        have q0 := hqa.1
        have Hq := Lib.hid hq
        clear hq hqa hprev1 hf hf2 hf3
        cases hpc : (p.cls == 0)
        · have hnx : Hid (pcsB false ps = pcsB (prevB ps (j + 1 + 1)) (ps.drop (j + 1 + 1))) := by
            show _ = _
            rw [Hst.out, hpb]
            rw [show decide (p.cls = 0) = false by rw [beq_eq_false_iff_ne] at hpc; exact decide_eq_false hpc]
            simp
          go_wp2_with fail
          go_roundw
          case rel => exact ⟨j + 1 + 1, by go_num, hlt, hnx, Hf3.out⟩
          case measure => simp [intOf]; omega
        · have hpc2 : decide (p.cls = 0) = true := by rw [beq_iff_eq] at hpc; exact decide_eq_true hpc
          cases hqc : (q.cls == 0)
          · have hqc2 : decide (q.cls = 0) = false := by rw [beq_eq_false_iff_ne] at hqc; exact decide_eq_false hqc
            have hnx : Hid (pcsB false ps = pcsB (prevB ps (j + 1 + 1)) (ps.drop (j + 1 + 1))) := by
              show _ = _
              rw [Hst.out, hpb, Hq.out, hqc2]; rfl
            clear hpc2 hqc2
            go_wp2_with fail
            go_roundw
            case rel => exact ⟨j + 1 + 1, by go_num, hlt, hnx, Hf3.out⟩
            case measure => simp [intOf]; omega
          · have hqc2 : decide (q.cls = 0) = true := by rw [beq_iff_eq] at hqc; exact decide_eq_true hqc
            have hres := Hrf.out (by rw [Hst.out, hpb, Hq.out, hqc2, hpc2]; rfl)
            have Hres := Lib.hid hres
            clear hres hpc2 hqc2
            go_wp2_with fail
            go_ret
            exact ⟨by rw [Hres.out]; rfl, Hf3.out⟩
    · obtain rfl : k = ps.length := by omega
      have hall : pcsB false ps = true := by rw [hb.out, List.drop_length]; rfl
      have hwr := rwritten_any wr (HP.out.still hf) (pcs_mem _ _ hall) HS.out hn
      have hres : rightB ps = (decide (ps.length ≤ 60) && decide ((wrt ps).length ≤ 60)) := by rw [right_ref, hall]; rfl
      have Hres := Lib.hid hres
      have Hwr := Lib.hid hwr
      have Hf := Lib.hid hf
      unfold strV at Hwr
      obtain ⟨Y, hY⟩ : ∃ Y : ByteArray, Y = ⟨(wrt ps).toArray⟩ := ⟨_, rfl⟩
      have hYs : Y.size = (wrt ps).length := by rw [← size_list, hY]
      rw [← hYs] at Hres
      rw [← hY] at Hwr
      clear hall hres hwr hf hb hlt hYs hY
      by_cases h60 : ps.length ≤ 60
      · rw [decide_eq_true h60] at Hres
        go_wp2_with fail
        refine Hwr.out.mono ?_
        rintro e w2 ⟨rfl, hf2⟩
        have Hf2 := Lib.hid (Hf.out.trans hf2)
        clear hf2
        go_wp2_with fail
        go_ret
        exact ⟨ret_bool (by rw [Hres.out, Bool.true_and, Bool.eq_iff_iff, decide_eq_true_eq, decide_eq_true_eq]; omega), Hf2.out⟩
      · rw [decide_eq_false h60] at Hres
        have hq : ¬ ((ps.length : Int) ≤ 60) := by omega
        go_wp2_with fail
        go_ret
        exact ⟨ret_bool (by rw [Hres.out]; rfl), Hf.out⟩

set_option maxRecDepth 100000 in
theorem rprint_any {v : Value} {ps : List Pc} (w : World) (hP : Pcs w v ps) (hs : Small ps) (hn : ps.length ≤ 1000) :
    Calls Tryd.prog 38 #[v] w fun e w' => e = .returned (strV (printL ps)) ∧ Frm (fun _ => False) w w' := by
  have hr := rright_any w hP hs hn
  have hw : rightB ps = true → ∀ w1, Frm (fun _ => False) w w1 → Calls Tryd.prog 84 #[v] w1 fun e w' => e = .returned (strV (wrt ps)) ∧ Frm (fun _ => False) w1 w' := fun h w1 f1 => rwritten_any w1 (hP.still f1) (right_mem h) hs hn
  obtain ⟨ao, cap, rfl⟩ := hP.form
  clear hP
  unfold strV at hw ⊢
  obtain ⟨R, hR⟩ : ∃ R : ByteArray, R = ⟨(printL ps).toArray⟩ := ⟨_, rfl⟩
  rw [← hR]
  cases hrb : rightB ps
  · have hR2 : R = ⟨#[]⟩ := by rw [hR]; unfold printL; rw [hrb]; rfl
    have HR := Lib.hid hR2
    rw [hrb] at hr
    clear hR hR2 hw hrb
    go_enter Tryd.func38, Tryd.ntmps38
    go_wp2_with fail
    refine hr.mono ?_
    rintro e w1 ⟨rfl, f1⟩
    go_wp2_with fail
    go_ret
    exact ⟨by rw [HR.out]; rfl, f1⟩
  · have hR2 : R = ⟨(wrt ps).toArray⟩ := by rw [hR]; unfold printL; rw [hrb]; rfl
    have hw := hw hrb
    rw [← hR2] at hw
    rw [hrb] at hr
    clear hR hR2 hrb
    go_enter Tryd.func38, Tryd.ntmps38
    go_wp2_with fail
    refine hr.mono ?_
    rintro e w1 ⟨rfl, f1⟩
    go_wp2_with fail
    refine (hw w1 f1).mono ?_
    rintro e w2 ⟨rfl, f2⟩
    go_wp2_with fail
    go_ret
    exact ⟨rfl, f1.trans f2⟩
end Go.Proofs.YtgnjakaamgeibaaDoor
