/-
  Right patterns: right and Print of both packages. Conditions: the pieces lie in memory, their texts within reach; the package variable reads as the text lays it.
-/
import Derived.Test.YtgnjakaamgeibaaGreatDoorWrt
namespace Go.Proofs.YtgnjakaamgeibaaGreatDoor
open Go.RowKit Go.Shelf
attribute [local go_sem] Oper.semAt_some
/-- The piece ahead of the place is a literal. -/
def prevB (ps : List Pc) : Nat → Bool
  | 0 => false
  | k + 1 => match ps[k]? with | some p => decide (p.cls = 0) | none => false
theorem prev_succ {ps : List Pc} {k : Nat} (hk : k < ps.length) : prevB ps (k + 1) = decide (ps[k].cls = 0) := by
  rw [prevB, List.getElem?_eq_getElem hk]
theorem pcs_step {ps : List Pc} {k : Nat} (hk : k < ps.length) : pcsB (prevB ps k) (ps.drop k) = (pieceB ps[k] && !(prevB ps k && decide (ps[k].cls = 0)) && pcsB (prevB ps (k + 1)) (ps.drop (k + 1))) := by
  rw [List.drop_eq_getElem_cons hk, pcsB, prev_succ hk]
set_option maxRecDepth 100000 in
set_option maxHeartbeats 8000000 in
theorem right_any {v : Value} {ps : List Pc} (w : World) (hP : Pcs w v ps) (hs : Small ps) (hn : ps.length ≤ 1000) (hT : Tabs w) :
    Calls Tryz.prog 70 #[v] w fun e w' => e = .returned (.bool (rightB ps)) ∧ Frm (fun _ => False) w w' := by
  obtain ⟨ao, cap, rfl⟩ := hP.form
  have HP := Lib.hid hP
  have HS := Lib.hid hs
  clear hP hs
  go_enter Tryz.func70, Tryz.ntmps70
  go_wp2_with fail
  go_loopw [7] (fun sk wr => ∃ k : Nat, sk = .int .i64 k ∧ k ≤ ps.length ∧ Hid (pcsB false ps = pcsB (prevB ps k) (ps.drop k)) ∧ Frm (fun _ => False) w wr) (fun sk _ => ps.length - (intOf sk).toNat)
  case atStart => exact ⟨0, rfl, Nat.zero_le _, by show _ = _; rfl, Frm.refl _ _⟩
  case round =>
    obtain ⟨k, rfl, hk, hb, hf⟩ := hrel
    by_cases hlt : k < ps.length
    · obtain ⟨g, rfl, ⟨c0, c1, c2, c3⟩, hg⟩ := (HP.out.still hf).at' k hlt
      have hst := pcs_step hlt
      rw [← hb.out] at hst
      have hsk := HS.out.at hlt
      have hpv := prev_succ hlt
      have hrf : pcsB false ps = false → rightB ps = false := fun h => by unfold rightB; rw [h]; rfl
      have Hrf := Lib.hid hrf
      have Hst := Lib.hid hst
      have Hpv := Lib.hid hpv
      clear hst hb hrf hpv
      have hprev : ∀ j, (hj : k = j + 1) → PcAt wr g (j * 4) (ps[j]'(by omega)) := by
        rintro j rfl
        obtain ⟨g', e1, e2, -⟩ := (HP.out.still hf).at' j (by omega)
        injection e1 with e1
        injection e1 with e1
        rw [e1]
        exact e2
      generalize hpk : ps[k] = p at c0 c1 c2 c3 hsk Hst Hpv
      clear hpk
      have hO := heap_alloc_new wr (.cells #[.int .i64 p.cls, .int .i64 p.lo, .int .i64 p.hi, .string p.txt] 66)
      have hf1 := hf.alloc (.cells #[.int .i64 p.cls, .int .i64 p.lo, .int .i64 p.hi, .string p.txt] 66)
      have hfo := (Frm.refl (fun _ => False) wr).alloc (.cells #[.int .i64 p.cls, .int .i64 p.lo, .int .i64 p.hi, .string p.txt] 66)
      have hprev1 : ∀ j, k = j + 1 → ∃ q : Pc, prevB ps k = decide (q.cls = 0) ∧ PcAt (wr.alloc (.cells #[.int .i64 p.cls, .int .i64 p.lo, .int .i64 p.hi, .string p.txt] 66)) g (j * 4) q := fun j hj => by
        subst hj
        exact ⟨ps[j]'(by omega), prev_succ (by omega), (hprev j rfl).still hfo⟩
      obtain ⟨d0, d1, d2, d3⟩ := pc_cells hO
      clear hprev hfo
      go_upto_region 4 with fail
      obtain ⟨W1, hW1⟩ : ∃ W, W = wr.alloc (.cells #[.int .i64 p.cls, .int .i64 p.lo, .int .i64 p.hi, .string p.txt] 66) := ⟨_, rfl⟩
      obtain ⟨x, hx⟩ : ∃ b, b = wr.heap.size := ⟨_, rfl⟩
      rw [← hW1, ← hx] at d0 d1 d2 d3
      rw [← hW1] at hf1 hprev1
      rw [← hW1, ← hx]
      clear hW1 hx c0 c1 c2 c3 hO hf
      have hpa := rightPiece_any p (by omega) W1
      unfold pcV at hpa
      go_wp2_with fail
      refine hpa.mono ?_
      rintro e w2 ⟨rfl, hf2⟩
      have hf3 := hf1.trans hf2
      have d0 := hf2.cell d0 (fun h => h)
      clear hpa d1 d2 d3
      have Hf3 := Lib.hid hf3
      cases hpb : pieceB p
      · have hres := Hrf.out (by rw [Hst.out, hpb]; rfl)
        have Hres := Lib.hid hres
        clear hres hprev1 hf1 hf2 hf3
        go_wp2_with fail
        go_ret
        exact ⟨by rw [Hres.out]; rfl, Hf3.out⟩
      cases k with
      | zero =>
        have hnx : Hid (pcsB false ps = pcsB (prevB ps (0 + 1)) (ps.drop (0 + 1))) := by
          show _ = _
          rw [Hst.out, hpb, prevB]; rfl
        clear hprev1 hf1 hf2 hf3
        go_wp2_with fail
        go_roundw
        case rel => exact ⟨1, rfl, hlt, hnx, Hf3.out⟩
        case measure => simp [intOf]; omega
      | succ j =>
        obtain ⟨q, hq, hqa⟩ := hprev1 j rfl
        have hqa := hqa.still hf2
        have q0 := hqa.1
        have Hq := Lib.hid hq
        clear hq hqa hprev1 hf1 hf2 hf3
        cases hpc : (p.cls == 0)
        · have hnx : Hid (pcsB false ps = pcsB (prevB ps (j + 1 + 1)) (ps.drop (j + 1 + 1))) := by
            show _ = _
            rw [Hst.out, hpb]
            rw [show decide (p.cls = 0) = false by rw [beq_eq_false_iff_ne] at hpc; exact decide_eq_false hpc]
            simp
          go_wp2_with fail
          go_roundw
          case rel => exact ⟨j + 1 + 1, by go_num, hlt, hnx, Hf3.out⟩
          case measure => simp [intOf]; omega
        · have hpc2 : decide (p.cls = 0) = true := by rw [beq_iff_eq] at hpc; exact decide_eq_true hpc
          cases hqc : (q.cls == 0)
          · have hqc2 : decide (q.cls = 0) = false := by rw [beq_eq_false_iff_ne] at hqc; exact decide_eq_false hqc
            have hnx : Hid (pcsB false ps = pcsB (prevB ps (j + 1 + 1)) (ps.drop (j + 1 + 1))) := by
              show _ = _
              rw [Hst.out, hpb, Hq.out, hqc2]; rfl
            clear hpc2 hqc2
            go_wp2_with fail
            go_roundw
            case rel => exact ⟨j + 1 + 1, by go_num, hlt, hnx, Hf3.out⟩
            case measure => simp [intOf]; omega
          · have hqc2 : decide (q.cls = 0) = true := by rw [beq_iff_eq] at hqc; exact decide_eq_true hqc
            have hres := Hrf.out (by rw [Hst.out, hpb, Hq.out, hqc2, hpc2]; rfl)
            have Hres := Lib.hid hres
            clear hres hpc2 hqc2
            go_wp2_with fail
            go_ret
            exact ⟨by rw [Hres.out]; rfl, Hf3.out⟩
    · obtain rfl : k = ps.length := by omega
      have hall : pcsB false ps = true := by rw [hb.out, List.drop_length]; rfl
      have hwr := written_any wr (HP.out.still hf) (pcs_mem _ _ hall) HS.out hn (hT.frm hf)
      have hres : rightB ps = decide ((wrt ps).length ≤ 60) := by unfold rightB; rw [hall]; rfl
      have Hres := Lib.hid hres
      have Hwr := Lib.hid hwr
      have Hf := Lib.hid hf
      unfold strV at Hwr
      obtain ⟨Y, hY⟩ : ∃ Y : ByteArray, Y = ⟨(wrt ps).toArray⟩ := ⟨_, rfl⟩
      have hYs : Y.size = (wrt ps).length := by rw [← size_list, hY]
      rw [← hYs] at Hres
      rw [← hY] at Hwr
      clear hall hres hwr hf hb hlt hYs hY
      go_wp2_with fail
      refine Hwr.out.mono ?_
      rintro e w2 ⟨rfl, hf2⟩
      have Hf2 := Lib.hid (Hf.out.trans hf2)
      clear hf2
      go_wp2_with fail
      go_ret
      exact ⟨ret_bool (by rw [Hres.out, Bool.eq_iff_iff, decide_eq_true_eq, decide_eq_true_eq]; omega), Hf2.out⟩
set_option maxRecDepth 100000 in
theorem print_any {v : Value} {ps : List Pc} (w : World) (hP : Pcs w v ps) (hs : Small ps) (hn : ps.length ≤ 1000) (hT : Tabs w) :
    Calls Tryz.prog 52 #[v] w fun e w' => e = .returned (strV (printL ps)) ∧ Frm (fun _ => False) w w' := by
  have hr := right_any w hP hs hn hT
  have hw : rightB ps = true → ∀ w1, Frm (fun _ => False) w w1 → Calls Tryz.prog 71 #[v] w1 fun e w' => e = .returned (strV (wrt ps)) ∧ Frm (fun _ => False) w1 w' := fun h w1 f1 => written_any w1 (hP.still f1) (right_mem h) hs hn (hT.frm f1)
  obtain ⟨ao, cap, rfl⟩ := hP.form
  clear hP
  unfold strV at hw ⊢
  obtain ⟨R, hR⟩ : ∃ R : ByteArray, R = ⟨(printL ps).toArray⟩ := ⟨_, rfl⟩
  rw [← hR]
  cases hrb : rightB ps
  · have hR2 : R = ⟨#[]⟩ := by rw [hR]; unfold printL; rw [hrb]; rfl
    have HR := Lib.hid hR2
    rw [hrb] at hr
    clear hR hR2 hw hrb
    go_enter Tryz.func52, Tryz.ntmps52
    go_wp2_with fail
    refine hr.mono ?_
    rintro e w1 ⟨rfl, f1⟩
    go_wp2_with fail
    go_ret
    exact ⟨by rw [HR.out]; rfl, f1⟩
  · have hR2 : R = ⟨(wrt ps).toArray⟩ := by rw [hR]; unfold printL; rw [hrb]; rfl
    have hw := hw hrb
    rw [← hR2] at hw
    rw [hrb] at hr
    clear hR hR2 hrb
    go_enter Tryz.func52, Tryz.ntmps52
    go_wp2_with fail
    refine hr.mono ?_
    rintro e w1 ⟨rfl, f1⟩
    go_wp2_with fail
    refine (hw w1 f1).mono ?_
    rintro e w2 ⟨rfl, f2⟩
    go_wp2_with fail
    go_ret
    exact ⟨rfl, f1.trans f2⟩
end Go.Proofs.YtgnjakaamgeibaaGreatDoor
