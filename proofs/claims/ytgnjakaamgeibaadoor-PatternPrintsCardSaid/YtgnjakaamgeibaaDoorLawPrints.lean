/-
  PatternPrints: the law returns true. Conditions: the laid tables; the arguments lie in memory.
-/
import Derived.Test.YtgnjakaamgeibaaDoorSme
import Derived.Test.YtgnjakaamgeibaaDoorSan5
import Derived.Test.YtgnjakaamgeibaaDoorRRgt
namespace Go.Proofs.YtgnjakaamgeibaaDoor
open Go.RowKit Go.Shelf
attribute [local go_sem] Oper.semAt_some

set_option maxRecDepth 100000 in
set_option maxHeartbeats 8000000 in
theorem law_prints {ao ao2 : Option Addr} {n cap n2 cap2 : Nat} {l : List Int} {raw : List Pc} (w : World) (hT : Tabs w) (hI : IntsAt w ao l) (hn : l.length = n) (hb : n ≤ maxLen) (hR : PcsAt w ao2 raw) (hn2 : raw.length = n2) (hb2 : n2 ≤ maxLen) :
    Calls Tryd.prog 7 #[.slice ao n cap, .slice ao2 n2 cap2] w fun e w' => e = .returned (.bool true) ∧ Frm (fun _ => False) w w' := by
  obtain ⟨i0, hi0, hz0, hz1, hz2⟩ := pc_info
  subst hn2
  have hbr : raw.length ≤ 9223372036854775807 := by unfold maxLen at hb2; omega
  have HT := Lib.hid hT
  have HI := Lib.hid hI
  have HR := Lib.hid hR
  have Hn := Lib.hid hn
  clear hT hI hR hb2 hn
  go_enter Tryd.func7, Tryd.ntmps7
  go_wp2_with fail
  refine (sanity5_any w HT.out).mono ?_
  rintro e w1 ⟨rfl, f1⟩
  have F1 := Lib.hid f1
  clear f1
  go_wp2_with fail
  refine (made_any w1 (HI.out.still F1.out) Hn.out hb).mono ?_
  rintro e w2 ⟨v6, rfl, hP6, f2⟩
  obtain ⟨hsm, hln⟩ := md_small (made_ok l) (Nat.le_refl _)
  generalize madeL l = ps at *
  have F2 := Lib.hid (F1.out.trans f2)
  have HP6' := Lib.hid hP6
  clear f2 hP6
  go_wp2_with fail
  refine (print_any w2 HP6'.out hsm hln (HT.out.frm F2.out)).mono ?_
  rintro e w3 ⟨rfl, f3⟩
  unfold strV
  obtain ⟨xs, hxs⟩ : ∃ xs : ByteArray, (⟨(printL ps).toArray⟩ : ByteArray) = xs := ⟨_, rfl⟩
  rw [hxs]
  have hxl : xs.data.toList = printL ps := by rw [← hxs]
  obtain ⟨bk, hbk⟩ : ∃ bk, bk = if rightB ps then ps else [] := ⟨_, rfl⟩
  have hpl : parseL xs.data.toList = .inr bk := by
    rw [hxl, hbk]
    unfold printL
    split
    · rename_i h; exact parse_print h
    · rfl
  have hxz : xs.size ≤ 60 := by
    rw [← size_list, hxl]
    unfold printL
    split
    · rename_i h
      unfold rightB at h
      simp only [Bool.and_eq_true, decide_eq_true_eq] at h
      exact h.2
    · exact Nat.zero_le _
  have hpk := parse_ok hpl (by omega)
  have Hpk := Lib.hid hpk
  have F3 := Lib.hid (F2.out.trans f3)
  have HP6 := Lib.hid (HP6'.out.still f3)
  clear f3 hpk hpl HP6'
  go_wp2_with fail
  refine (Hpk.out w3).mono ?_
  rintro e w4 ⟨v8, rfl, hP8, f4⟩
  have HF4 := Lib.hid (F3.out.trans f4)
  have HG4 := Lib.hid f4
  have HP8 := Lib.hid hP8
  obtain ⟨ys, hys⟩ : ∃ ys : ByteArray, (⟨(printL (cutL 20 6 raw)).toArray⟩ : ByteArray) = ys := ⟨_, rfl⟩
  have hlo : (cutL 20 6 raw).length ≤ 1000 := by unfold cutL; rw [List.length_map, List.length_take]; omega
  clear f4 hP8 Hpk
  go_wp2_with fail
  go_loopw [11, 12] (fun v sk wr => ∃ k : Nat, sk = .int .i64 k ∧ k ≤ raw.length ∧ k ≤ 6 ∧ Pcs wr v (cutL 20 k raw) ∧ (∀ b, Blk v b → w4.heap.size ≤ b) ∧ Frm (fun _ => False) w4 wr) (fun _ sk _ => 6 - (intOf sk).toNat)
  case atStart => exact ⟨0, rfl, Nat.zero_le _, Nat.zero_le _, Pcs.nil _, fun b hb => absurd hb Blk.nil, Frm.refl _ _⟩
  case round =>
    obtain ⟨k, rfl, hk, hk6, hPo, hnew, hf⟩ := hrel
    by_cases hlt : k < raw.length ∧ k < 6
    · obtain ⟨h1, h2⟩ := hlt
      have h1' : (k : Int) < (raw.length : Int) := by omega
      have h2' : (k : Int) < 6 := by omega
      obtain ⟨lb, lo, hao, ⟨c0, c1, c2, c3⟩, hsz⟩ := HR.out k h1
      subst hao
      have d0 := (HF4.out.trans hf).cell c0 (fun h => h)
      have d1 := (HF4.out.trans hf).cell c1 (fun h => h)
      have d2 := (HF4.out.trans hf).cell c2 (fun h => h)
      have d3 := (HF4.out.trans hf).cell c3 (fun h => h)
      have hcs := cutL_succ (n := 20) h1
      have hcl := cutL_len (n := 20) hk
      have hcp : cutP 20 raw[k] = ⟨raw[k].cls, raw[k].lo, raw[k].hi, raw[k].txt.extract 0 (min raw[k].txt.size 20)⟩ := rfl
      rw [hcp] at hcs
      obtain ⟨ao3, cap3, hv3⟩ := hPo.form
      rw [hcl] at hv3
      subst hv3
      have hct := cut_any raw[k].txt hsz 20 (by decide)
      have hsz2 : (raw[k].txt.extract 0 (min raw[k].txt.size 20)).size ≤ 20 := by rw [ByteArray.size_extract]; omega
      generalize raw[k].txt.extract 0 (min raw[k].txt.size 20) = T at *
      generalize raw[k].cls = pc at *
      generalize raw[k].lo = pl at *
      generalize raw[k].hi = ph at *
      generalize raw[k].txt = pt at *
      have hP2 := hPo.still ((Frm.refl (fun _ => False) wr).alloc (.cells #[.int .i64 pc, .int .i64 pl, .int .i64 ph, .string T] 53))
      have hf2 : Frm (fun _ => False) w4 (wr.alloc (.cells #[.int .i64 pc, .int .i64 pl, .int .i64 ph, .string T] 53)) := hf.alloc _
      have hN := heap_alloc_new wr (.cells #[.int .i64 pc, .int .i64 pl, .int .i64 ph, .string T] 53)
      have n3 : (wr.alloc (.cells #[.int .i64 pc, .int .i64 pl, .int .i64 ph, .string pt] 53)).cell? ⟨wr.heap.size, 3, none⟩ = some (.string pt) := by rw [cell_of_row _ wr.heap.size _ _ _ _ (heap_alloc_new wr _)]; rfl
      have nz := frozen_of_row _ wr.heap.size 3 _ _ (heap_alloc_new wr (.cells #[.int .i64 pc, .int .i64 pl, .int .i64 ph, .string pt] 53))
      have Hct := Lib.hid hct
      have Hnew := Lib.hid hnew
      have Hcs := Lib.hid hcs
      have Hcl := Lib.hid hcl
      clear hct hnew hcs hcl hcp hPo c0 c1 c2 c3
      go_wp2_with fail
      refine (Hct.out _).mono ?_
      rintro e w9 ⟨rfl, rfl⟩
      clear d0 d1 d2 d3
      go_upto_region 11 with fail
      obtain ⟨W2, hW2⟩ : ∃ W, W = wr.alloc (.cells #[.int .i64 pc, .int .i64 pl, .int .i64 ph, .string T] 53) := ⟨_, rfl⟩
      obtain ⟨xb, hxb⟩ : ∃ b, b = wr.heap.size := ⟨_, rfl⟩
      rw [← hW2, ← hxb] at hN
      rw [← hW2] at hP2 hf2
      rw [← hW2, ← hxb]
      clear hW2 hxb n3 nz hf
      have b0 : W2.cell? ⟨xb, 0, none⟩ = some (.int .i64 pc) := by rw [cell_of_row W2 xb _ _ _ _ hN]; rfl
      have b1 : W2.cell? ⟨xb, 1, none⟩ = some (.int .i64 pl) := by rw [cell_of_row W2 xb _ _ _ _ hN]; rfl
      have b2 : W2.cell? ⟨xb, 2, none⟩ = some (.int .i64 ph) := by rw [cell_of_row W2 xb _ _ _ _ hN]; rfl
      have b3 : W2.cell? ⟨xb, 3, none⟩ = some (.string T) := by rw [cell_of_row W2 xb _ _ _ _ hN]; rfl
      have hbA : (W2.alloc (.cells #[.int .i64 pc, .int .i64 pl, .int .i64 ph, .string T] 53)).ownsRow 0 53 4 (.slice ao3 k cap3) k ((cutL 20 k raw).flatMap pcC) := by
        have := hP2.still ((Frm.refl (fun _ => False) W2).alloc (.cells #[.int .i64 pc, .int .i64 pl, .int .i64 ph, .string T] 53))
        unfold Pcs at this
        rw [Hcl.out] at this
        exact this
      have Hf2 := Lib.hid hf2
      clear hP2 hf2 hN
      go_wp2_with (at_builtin; refine wpList_append_one rfl _ _ 46 rfl 53 i0 (.agg #[.int .i64 0, .int .i64 0, .int .i64 0, .string ⟨#[]⟩]) 4 40 Tryd.underlying46 hi0 hz0 hz1 hz2 rfl (by decide) _ _ _ rfl hbA ⟨W2.heap.size, 0, none⟩ 1 [.int .i64 pc, .int .i64 pl, .int .i64 ph, .string T] rfl rfl (new_cells W2 #[.int .i64 pc, .int .i64 pl, .int .i64 ph, .string T] 53 W2.heap.size rfl) (by intro u hu; simp at hu; rcases hu with rfl | rfl | rfl | rfl <;> rfl) (by omega) (by unfold maxLen; omega) ?_)
      intro g cap4 w8 hown hfrm hgg
      have hP8 : Pcs w8 (.slice (some ⟨g, 0, none⟩) (k + 1) cap4) (cutL 20 (k + 1) raw) := by
        rw [Hcs.out]
        exact Pcs.grow (by rw [Hcl.out]) hown
      have hn8 : ∀ b, Blk (.slice (some ⟨g, 0, none⟩) (k + 1) cap4) b → w4.heap.size ≤ b := fun b hb => by
        obtain rfl := Blk.some.1 hb
        rcases hgg with e | e
        · exact Hnew.out _ e
        · try rw [World.size_alloc] at e
          have := Hf2.out.size
          omega
      have hf8 : Frm (fun _ => False) w4 w8 := (Hf2.out.alloc _).trans' hfrm (fun k hk => .inr (Hnew.out _ hk))
      have H8 := Lib.hid hP8
      have HN8 := Lib.hid hn8
      have HF8 := Lib.hid hf8
      clear hown hfrm hgg hP8 hn8 hf8 hbA
      go_wp2_with fail
      go_roundw
      case rel => exact ⟨k + 1, by go_num, by omega, by omega, H8.out, HN8.out, HF8.out⟩
      case measure => simp [intOf]; omega
    · have hall : cutL 20 k raw = cutL 20 6 raw := by
        by_cases h : k < raw.length
        · obtain rfl : k = 6 := by omega
          rfl
        · obtain rfl : k = raw.length := by omega
          exact (cutL_all hk6).symm
      rw [hall] at hPo
      have Hnew := Lib.hid hnew
      have HPo := Lib.hid hPo
      have Hf := Lib.hid hf
      clear hnew hPo hf hall
      by_cases h1 : k < raw.length
      · have h2 : ¬ ((k : Int) < 6) := by omega
        have h1' : (k : Int) < (raw.length : Int) := by omega
        go_wp2_with fail
        refine (rright_any _ (HP6.out.still (HG4.out.trans Hf.out)) hsm hln).mono ?_
        rintro e w10 ⟨rfl, g⟩
        have Hg10 := Lib.hid (Hf.out.trans g)
        have HQ10 := Lib.hid g
        clear g
        cases hr : rightB ps
        · go_wp2_with fail
          refine (rprint_any _ (HP6.out.still (HG4.out.trans Hg10.out)) hsm hln).mono ?_
          rintro e w11 ⟨rfl, g⟩
          have Hg11 := Lib.hid (Hg10.out.trans g)
          have HQ11 := Lib.hid (HQ10.out.trans g)
          clear g
          unfold strV
          rw [hxs]
          go_wp2_with fail
          refine (print_any _ (HPo.out.still (HQ11.out)) (cutL_small (by decide)) hlo (HT.out.frm (HF4.out.trans Hg11.out))).mono ?_
          rintro e w13 ⟨rfl, g⟩
          have HQ13 := Lib.hid (HQ11.out.trans g)
          have Hg13 := Lib.hid (Hg11.out.trans g)
          clear g
          unfold strV
          rw [hys]
          go_wp2_with fail
          refine (rprint_any _ (HPo.out.still (HQ13.out)) (cutL_small (by decide)) hlo).mono ?_
          rintro e w14 ⟨rfl, g⟩
          have Hg14 := Lib.hid (Hg13.out.trans g)
          clear g
          unfold strV
          rw [hys]
          go_wp2_with fail
          go_ret
          exact ⟨rfl, HF4.out.trans Hg14.out⟩
        · go_wp2_with fail
          refine (rprint_any _ (HP6.out.still (HG4.out.trans Hg10.out)) hsm hln).mono ?_
          rintro e w11 ⟨rfl, g⟩
          have Hg11 := Lib.hid (Hg10.out.trans g)
          have HQ11 := Lib.hid (HQ10.out.trans g)
          clear g
          unfold strV
          rw [hxs]
          go_wp2_with fail
          have hbk2 : bk = ps := by rw [hbk, if_pos hr]
          refine (same_any _ (by rw [← hbk2]; exact HP8.out.still Hg11.out) (HP6.out.still (HG4.out.trans Hg11.out)) hln).mono ?_
          rintro e w12 ⟨rfl, g⟩
          have Hg12 := Lib.hid (Hg11.out.trans g)
          have HQ12 := Lib.hid (HQ11.out.trans g)
          clear g
          go_wp2_with fail
          refine (print_any _ (HPo.out.still (HQ12.out)) (cutL_small (by decide)) hlo (HT.out.frm (HF4.out.trans Hg12.out))).mono ?_
          rintro e w13 ⟨rfl, g⟩
          have HQ13 := Lib.hid (HQ12.out.trans g)
          have Hg13 := Lib.hid (Hg12.out.trans g)
          clear g
          unfold strV
          rw [hys]
          go_wp2_with fail
          refine (rprint_any _ (HPo.out.still (HQ13.out)) (cutL_small (by decide)) hlo).mono ?_
          rintro e w14 ⟨rfl, g⟩
          have Hg14 := Lib.hid (Hg13.out.trans g)
          clear g
          unfold strV
          rw [hys]
          go_wp2_with fail
          go_ret
          exact ⟨rfl, HF4.out.trans Hg14.out⟩
      · have h1' : ¬ ((k : Int) < (raw.length : Int)) := by omega
        go_wp2_with fail
        refine (rright_any _ (HP6.out.still (HG4.out.trans Hf.out)) hsm hln).mono ?_
        rintro e w10 ⟨rfl, g⟩
        have Hg10 := Lib.hid (Hf.out.trans g)
        have HQ10 := Lib.hid g
        clear g
        cases hr : rightB ps
        · go_wp2_with fail
          refine (rprint_any _ (HP6.out.still (HG4.out.trans Hg10.out)) hsm hln).mono ?_
          rintro e w11 ⟨rfl, g⟩
          have Hg11 := Lib.hid (Hg10.out.trans g)
          have HQ11 := Lib.hid (HQ10.out.trans g)
          clear g
          unfold strV
          rw [hxs]
          go_wp2_with fail
          refine (print_any _ (HPo.out.still (HQ11.out)) (cutL_small (by decide)) hlo (HT.out.frm (HF4.out.trans Hg11.out))).mono ?_
          rintro e w13 ⟨rfl, g⟩
          have HQ13 := Lib.hid (HQ11.out.trans g)
          have Hg13 := Lib.hid (Hg11.out.trans g)
          clear g
          unfold strV
          rw [hys]
          go_wp2_with fail
          refine (rprint_any _ (HPo.out.still (HQ13.out)) (cutL_small (by decide)) hlo).mono ?_
          rintro e w14 ⟨rfl, g⟩
          have Hg14 := Lib.hid (Hg13.out.trans g)
          clear g
          unfold strV
          rw [hys]
          go_wp2_with fail
          go_ret
          exact ⟨rfl, HF4.out.trans Hg14.out⟩
        · go_wp2_with fail
          refine (rprint_any _ (HP6.out.still (HG4.out.trans Hg10.out)) hsm hln).mono ?_
          rintro e w11 ⟨rfl, g⟩
          have Hg11 := Lib.hid (Hg10.out.trans g)
          have HQ11 := Lib.hid (HQ10.out.trans g)
          clear g
          unfold strV
          rw [hxs]
          go_wp2_with fail
          have hbk2 : bk = ps := by rw [hbk, if_pos hr]
          refine (same_any _ (by rw [← hbk2]; exact HP8.out.still Hg11.out) (HP6.out.still (HG4.out.trans Hg11.out)) hln).mono ?_
          rintro e w12 ⟨rfl, g⟩
          have Hg12 := Lib.hid (Hg11.out.trans g)
          have HQ12 := Lib.hid (HQ11.out.trans g)
          clear g
          go_wp2_with fail
          refine (print_any _ (HPo.out.still (HQ12.out)) (cutL_small (by decide)) hlo (HT.out.frm (HF4.out.trans Hg12.out))).mono ?_
          rintro e w13 ⟨rfl, g⟩
          have HQ13 := Lib.hid (HQ12.out.trans g)
          have Hg13 := Lib.hid (Hg12.out.trans g)
          clear g
          unfold strV
          rw [hys]
          go_wp2_with fail
          refine (rprint_any _ (HPo.out.still (HQ13.out)) (cutL_small (by decide)) hlo).mono ?_
          rintro e w14 ⟨rfl, g⟩
          have Hg14 := Lib.hid (Hg13.out.trans g)
          clear g
          unfold strV
          rw [hys]
          go_wp2_with fail
          go_ret
          exact ⟨rfl, HF4.out.trans Hg14.out⟩
end Go.Proofs.YtgnjakaamgeibaaDoor
