/-
  PatternCovers: the law returns true. Conditions: the laid tables; the arguments lie in memory.
-/
import Derived.Test.YtgnjakaamgeibaaDoorSme
import Derived.Test.YtgnjakaamgeibaaDoorSan5
import Derived.Test.YtgnjakaamgeibaaDoorRRgt
import Derived.Test.YtgnjakaamgeibaaDoorRCov
namespace Go.Proofs.YtgnjakaamgeibaaDoor
open Go.RowKit Go.Shelf
attribute [local go_sem] Oper.semAt_some

set_option maxRecDepth 100000 in
set_option maxHeartbeats 8000000 in
theorem law_covers {ao ao1 ao2 : Option Addr} {n cap n1 cap1 n2 cap2 : Nat} {l l1 : List Int} {raw : List Pc} (w : World) (hT : Tabs w) (hI : IntsAt w ao l) (hn : l.length = n) (hb : n ≤ maxLen) (hI1 : IntsAt w ao1 l1) (hn1 : l1.length = n1) (hb1 : n1 ≤ maxLen) (hR : PcsAt w ao2 raw) (hn2 : raw.length = n2) (hb2 : n2 ≤ maxLen) :
    Calls Tryd.prog 10 #[.agg #[.slice ao n cap, .slice ao1 n1 cap1], .slice ao2 n2 cap2] w fun e w' => e = .returned (.bool true) ∧ Frm (fun _ => False) w w' := by
  obtain ⟨i0, hi0, hz0, hz1, hz2⟩ := pc_info
  subst hn2
  have hbr : raw.length ≤ 9223372036854775807 := by unfold maxLen at hb2; omega
  have HT := Lib.hid hT
  have HI := Lib.hid hI
  have HI1 := Lib.hid hI1
  have HR := Lib.hid hR
  have Hn := Lib.hid hn
  have Hn1 := Lib.hid hn1
  clear hT hI hI1 hR hb2 hn hn1
  have hN := heap_alloc_new w (.cells #[.slice ao n cap, .slice ao1 n1 cap1] 58)
  have hF0 := (Frm.refl (fun _ => False) w).alloc (.cells #[.slice ao n cap, .slice ao1 n1 cap1] 58)
  go_enter Tryd.func10, Tryd.ntmps10
  go_wp2_with fail
  obtain ⟨W1, hW1⟩ : ∃ W, W = w.alloc (.cells #[.slice ao n cap, .slice ao1 n1 cap1] 58) := ⟨_, rfl⟩
  obtain ⟨xb, hxb⟩ : ∃ b, b = w.heap.size := ⟨_, rfl⟩
  rw [← hW1, ← hxb] at hN
  rw [← hW1] at hF0
  rw [← hW1, ← hxb]
  clear hW1 hxb
  have F0 := Lib.hid hF0
  clear hF0
  refine (sanity5_any W1 (HT.out.frm F0.out)).mono ?_
  rintro e w1 ⟨rfl, f1⟩
  have hN1 := f1.heap hN (fun h => h)
  have F1 := Lib.hid (F0.out.trans f1)
  have a0 : w1.cell? ⟨xb, 0, none⟩ = some (.slice ao n cap) := by rw [cell_of_row w1 xb _ _ _ _ hN1]; rfl
  have a1 : w1.cell? ⟨xb, 1, none⟩ = some (.slice ao1 n1 cap1) := by rw [cell_of_row w1 xb _ _ _ _ hN1]; rfl
  clear f1 hN hN1
  go_wp2_with fail
  refine (made_any w1 (HI.out.still F1.out) Hn.out hb).mono ?_
  rintro e w2 ⟨v6, rfl, hP6, f2⟩
  obtain ⟨hsp, hlp⟩ := md_small (made_ok l) (Nat.le_refl _)
  generalize madeL l = ps at *
  have a1 := f2.cell a1 (fun h => h)
  have F2 := Lib.hid (F1.out.trans f2)
  have HP6' := Lib.hid hP6
  clear f2 hP6 a0
  go_wp2_with fail
  refine (made_any w2 (HI1.out.still F2.out) Hn1.out hb1).mono ?_
  rintro e w3 ⟨v7, rfl, hP7, f3⟩
  obtain ⟨hsq, hlq⟩ := md_small (made_ok l1) (Nat.le_refl _)
  generalize madeL l1 = qs at *
  have HF4 := Lib.hid (F2.out.trans f3)
  have HPp := Lib.hid (HP6'.out.still f3)
  have HPq := Lib.hid hP7
  have hlo : (cutL 20 4 raw).length ≤ 1000 := by unfold cutL; rw [List.length_map, List.length_take]; omega
  clear f3 hP7 HP6' a1
  go_wp2_with fail
  go_loopw [8, 9] (fun v sk wr => ∃ k : Nat, sk = .int .i64 k ∧ k ≤ raw.length ∧ k ≤ 4 ∧ Pcs wr v (cutL 20 k raw) ∧ (∀ b, Blk v b → w3.heap.size ≤ b) ∧ Frm (fun _ => False) w3 wr) (fun _ sk _ => 4 - (intOf sk).toNat)
  case atStart => exact ⟨0, rfl, Nat.zero_le _, Nat.zero_le _, Pcs.nil _, fun b hb => absurd hb Blk.nil, Frm.refl _ _⟩
  case round =>
    obtain ⟨k, rfl, hk, hk6, hPo, hnew, hf⟩ := hrel
    by_cases hlt : k < raw.length ∧ k < 4
    · obtain ⟨h1, h2⟩ := hlt
      have h1' : (k : Int) < (raw.length : Int) := by omega
      have h2' : (k : Int) < 4 := by omega
      obtain ⟨lb, lo, hao, ⟨c0, c1, c2, c3⟩, hsz⟩ := HR.out k h1
      subst hao
      have d0 := (HF4.out.trans hf).cell c0 (fun h => h)
      have d1 := (HF4.out.trans hf).cell c1 (fun h => h)
      have d2 := (HF4.out.trans hf).cell c2 (fun h => h)
      have d3 := (HF4.out.trans hf).cell c3 (fun h => h)
      have hcs := cutL_succ (n := 20) h1
      have hcl := cutL_len (n := 20) hk
      have hcp : cutP 20 raw[k] = ⟨raw[k].cls, raw[k].lo, raw[k].hi, raw[k].txt.extract 0 (min raw[k].txt.size 20)⟩ := rfl
      rw [hcp] at hcs
      obtain ⟨ao3, cap3, hv3⟩ := hPo.form
      rw [hcl] at hv3
      subst hv3
      have hct := cut_any raw[k].txt hsz 20 (by decide)
      have hsz2 : (raw[k].txt.extract 0 (min raw[k].txt.size 20)).size ≤ 20 := by rw [ByteArray.size_extract]; omega
      generalize raw[k].txt.extract 0 (min raw[k].txt.size 20) = T at *
      generalize raw[k].cls = pc at *
      generalize raw[k].lo = pl at *
      generalize raw[k].hi = ph at *
      generalize raw[k].txt = pt at *
      have hP2 := hPo.still ((Frm.refl (fun _ => False) wr).alloc (.cells #[.int .i64 pc, .int .i64 pl, .int .i64 ph, .string T] 53))
      have hf2 : Frm (fun _ => False) w3 (wr.alloc (.cells #[.int .i64 pc, .int .i64 pl, .int .i64 ph, .string T] 53)) := hf.alloc _
      have hN := heap_alloc_new wr (.cells #[.int .i64 pc, .int .i64 pl, .int .i64 ph, .string T] 53)
      have n3 : (wr.alloc (.cells #[.int .i64 pc, .int .i64 pl, .int .i64 ph, .string pt] 53)).cell? ⟨wr.heap.size, 3, none⟩ = some (.string pt) := by rw [cell_of_row _ wr.heap.size _ _ _ _ (heap_alloc_new wr _)]; rfl
      have nz := frozen_of_row _ wr.heap.size 3 _ _ (heap_alloc_new wr (.cells #[.int .i64 pc, .int .i64 pl, .int .i64 ph, .string pt] 53))
      have Hct := Lib.hid hct
      have Hnew := Lib.hid hnew
      have Hcs := Lib.hid hcs
      have Hcl := Lib.hid hcl
      clear hct hnew hcs hcl hcp hPo c0 c1 c2 c3
      go_wp2_with fail
      refine (Hct.out _).mono ?_
      rintro e w9 ⟨rfl, rfl⟩
      clear d0 d1 d2 d3
      go_upto_region 10 with fail
      obtain ⟨W2, hW2⟩ : ∃ W, W = wr.alloc (.cells #[.int .i64 pc, .int .i64 pl, .int .i64 ph, .string T] 53) := ⟨_, rfl⟩
      obtain ⟨xb, hxb⟩ : ∃ b, b = wr.heap.size := ⟨_, rfl⟩
      rw [← hW2, ← hxb] at hN
      rw [← hW2] at hP2 hf2
      rw [← hW2, ← hxb]
      clear hW2 hxb n3 nz hf
      have b0 : W2.cell? ⟨xb, 0, none⟩ = some (.int .i64 pc) := by rw [cell_of_row W2 xb _ _ _ _ hN]; rfl
      have b1 : W2.cell? ⟨xb, 1, none⟩ = some (.int .i64 pl) := by rw [cell_of_row W2 xb _ _ _ _ hN]; rfl
      have b2 : W2.cell? ⟨xb, 2, none⟩ = some (.int .i64 ph) := by rw [cell_of_row W2 xb _ _ _ _ hN]; rfl
      have b3 : W2.cell? ⟨xb, 3, none⟩ = some (.string T) := by rw [cell_of_row W2 xb _ _ _ _ hN]; rfl
      have hbA : (W2.alloc (.cells #[.int .i64 pc, .int .i64 pl, .int .i64 ph, .string T] 53)).ownsRow 0 53 4 (.slice ao3 k cap3) k ((cutL 20 k raw).flatMap pcC) := by
        have := hP2.still ((Frm.refl (fun _ => False) W2).alloc (.cells #[.int .i64 pc, .int .i64 pl, .int .i64 ph, .string T] 53))
        unfold Pcs at this
        rw [Hcl.out] at this
        exact this
      have Hf2 := Lib.hid hf2
      clear hP2 hf2 hN
      go_wp2_with (at_builtin; refine wpList_append_one rfl _ _ 46 rfl 53 i0 (.agg #[.int .i64 0, .int .i64 0, .int .i64 0, .string ⟨#[]⟩]) 4 40 Tryd.underlying46 hi0 hz0 hz1 hz2 rfl (by decide) _ _ _ rfl hbA ⟨W2.heap.size, 0, none⟩ 1 [.int .i64 pc, .int .i64 pl, .int .i64 ph, .string T] rfl rfl (new_cells W2 #[.int .i64 pc, .int .i64 pl, .int .i64 ph, .string T] 53 W2.heap.size rfl) (by intro u hu; simp at hu; rcases hu with rfl | rfl | rfl | rfl <;> rfl) (by omega) (by unfold maxLen; omega) ?_)
      intro g cap4 w8 hown hfrm hgg
      have hP8 : Pcs w8 (.slice (some ⟨g, 0, none⟩) (k + 1) cap4) (cutL 20 (k + 1) raw) := by
        rw [Hcs.out]
        exact Pcs.grow (by rw [Hcl.out]) hown
      have hn8 : ∀ b, Blk (.slice (some ⟨g, 0, none⟩) (k + 1) cap4) b → w3.heap.size ≤ b := fun b hb => by
        obtain rfl := Blk.some.1 hb
        rcases hgg with e | e
        · exact Hnew.out _ e
        · try rw [World.size_alloc] at e
          have := Hf2.out.size
          omega
      have hf8 : Frm (fun _ => False) w3 w8 := (Hf2.out.alloc _).trans' hfrm (fun k hk => .inr (Hnew.out _ hk))
      have H8 := Lib.hid hP8
      have HN8 := Lib.hid hn8
      have HF8 := Lib.hid hf8
      clear hown hfrm hgg hP8 hn8 hf8 hbA
      go_wp2_with fail
      go_roundw
      case rel => exact ⟨k + 1, by go_num, by omega, by omega, H8.out, HN8.out, HF8.out⟩
      case measure => simp [intOf]; omega
    · have hall : cutL 20 k raw = cutL 20 4 raw := by
        by_cases h : k < raw.length
        · obtain rfl : k = 4 := by omega
          rfl
        · obtain rfl : k = raw.length := by omega
          exact (cutL_all hk6).symm
      rw [hall] at hPo
      have Hnew := Lib.hid hnew
      have HPo := Lib.hid hPo
      have Hf := Lib.hid hf
      clear hnew hPo hf hall
      by_cases h1 : k < raw.length
      · have h2 : ¬ ((k : Int) < 4) := by omega
        have h1' : (k : Int) < (raw.length : Int) := by omega
        have G0 := Lib.hid Hf.out
        have Q0 := Lib.hid (Frm.refl (fun _ => False) wr)
        go_wp2_with fail
        refine (covers_any _ (HPp.out.still G0.out) (HPq.out.still G0.out) hsp hsq hlp hlq (HT.out.frm (HF4.out.trans G0.out))).mono ?_
        rintro e u1 ⟨rfl, g⟩
        have G1 := Lib.hid (G0.out.trans g)
        have Q1 := Lib.hid (Q0.out.trans g)
        clear g
        obtain ⟨b0, hb0⟩ : ∃ b, b = coversB ps qs := ⟨_, rfl⟩
        rw [← hb0]
        go_wp2_with fail
        refine (rcovers_any _ (HPp.out.still G1.out) (HPq.out.still G1.out) hsp hsq hlp hlq).mono ?_
        rintro e u2 ⟨rfl, g⟩
        have G2 := Lib.hid (G1.out.trans g)
        have Q2 := Lib.hid (Q1.out.trans g)
        clear g
        rw [← hb0]
        have t1 : (b0 == b0) = true := by cases b0 <;> rfl
        clear hb0
        go_wp2_with fail
        refine (covers_any _ (HPq.out.still G2.out) (HPp.out.still G2.out) hsq hsp hlq hlp (HT.out.frm (HF4.out.trans G2.out))).mono ?_
        rintro e u3 ⟨rfl, g⟩
        have G3 := Lib.hid (G2.out.trans g)
        have Q3 := Lib.hid (Q2.out.trans g)
        clear g
        obtain ⟨b2, hb2⟩ : ∃ b, b = coversB qs ps := ⟨_, rfl⟩
        rw [← hb2]
        go_wp2_with fail
        refine (rcovers_any _ (HPq.out.still G3.out) (HPp.out.still G3.out) hsq hsp hlq hlp).mono ?_
        rintro e u4 ⟨rfl, g⟩
        have G4 := Lib.hid (G3.out.trans g)
        have Q4 := Lib.hid (Q3.out.trans g)
        clear g
        rw [← hb2]
        have t3 : (b2 == b2) = true := by cases b2 <;> rfl
        clear hb2
        go_wp2_with fail
        refine (covers_any _ (HPo.out.still Q4.out) (HPq.out.still G4.out) (cutL_small (by decide)) hsq hlo hlq (HT.out.frm (HF4.out.trans G4.out))).mono ?_
        rintro e u5 ⟨rfl, g⟩
        have G5 := Lib.hid (G4.out.trans g)
        have Q5 := Lib.hid (Q4.out.trans g)
        clear g
        obtain ⟨b4, hb4⟩ : ∃ b, b = coversB (cutL 20 4 raw) qs := ⟨_, rfl⟩
        rw [← hb4]
        go_wp2_with fail
        refine (rcovers_any _ (HPo.out.still Q5.out) (HPq.out.still G5.out) (cutL_small (by decide)) hsq hlo hlq).mono ?_
        rintro e u6 ⟨rfl, g⟩
        have G6 := Lib.hid (G5.out.trans g)
        have Q6 := Lib.hid (Q5.out.trans g)
        clear g
        rw [← hb4]
        have t5 : (b4 == b4) = true := by cases b4 <;> rfl
        clear hb4
        go_wp2_with fail
        refine (covers_any _ (HPq.out.still G6.out) (HPo.out.still Q6.out) hsq (cutL_small (by decide)) hlq hlo (HT.out.frm (HF4.out.trans G6.out))).mono ?_
        rintro e u7 ⟨rfl, g⟩
        have G7 := Lib.hid (G6.out.trans g)
        have Q7 := Lib.hid (Q6.out.trans g)
        clear g
        obtain ⟨b6, hb6⟩ : ∃ b, b = coversB qs (cutL 20 4 raw) := ⟨_, rfl⟩
        rw [← hb6]
        go_wp2_with fail
        refine (rcovers_any _ (HPq.out.still G7.out) (HPo.out.still Q7.out) hsq (cutL_small (by decide)) hlq hlo).mono ?_
        rintro e u8 ⟨rfl, g⟩
        have G8 := Lib.hid (G7.out.trans g)
        have Q8 := Lib.hid (Q7.out.trans g)
        clear g
        rw [← hb6]
        have t7 : (b6 == b6) = true := by cases b6 <;> rfl
        clear hb6
        go_wp2_with fail
        refine (covers_any _ (HPp.out.still G8.out) (HPp.out.still G8.out) hsp hsp hlp hlp (HT.out.frm (HF4.out.trans G8.out))).mono ?_
        rintro e u9 ⟨rfl, g⟩
        have G9 := Lib.hid (G8.out.trans g)
        have Q9 := Lib.hid (Q8.out.trans g)
        clear g
        rw [covers_self]
        go_wp2_with fail
        refine (rright_any _ (HPp.out.still G9.out) hsp hlp).mono ?_
        rintro e u10 ⟨rfl, g⟩
        have G10 := Lib.hid (G9.out.trans g)
        clear g
        have tt : (rightB ps == rightB ps) = true := by cases rightB ps <;> rfl
        go_wp2_with fail
        go_ret
        exact ⟨rfl, HF4.out.trans G10.out⟩
      · have h1' : ¬ ((k : Int) < (raw.length : Int)) := by omega
        have G0 := Lib.hid Hf.out
        have Q0 := Lib.hid (Frm.refl (fun _ => False) wr)
        go_wp2_with fail
        refine (covers_any _ (HPp.out.still G0.out) (HPq.out.still G0.out) hsp hsq hlp hlq (HT.out.frm (HF4.out.trans G0.out))).mono ?_
        rintro e u1 ⟨rfl, g⟩
        have G1 := Lib.hid (G0.out.trans g)
        have Q1 := Lib.hid (Q0.out.trans g)
        clear g
        obtain ⟨b0, hb0⟩ : ∃ b, b = coversB ps qs := ⟨_, rfl⟩
        rw [← hb0]
        go_wp2_with fail
        refine (rcovers_any _ (HPp.out.still G1.out) (HPq.out.still G1.out) hsp hsq hlp hlq).mono ?_
        rintro e u2 ⟨rfl, g⟩
        have G2 := Lib.hid (G1.out.trans g)
        have Q2 := Lib.hid (Q1.out.trans g)
        clear g
        rw [← hb0]
        have t1 : (b0 == b0) = true := by cases b0 <;> rfl
        clear hb0
        go_wp2_with fail
        refine (covers_any _ (HPq.out.still G2.out) (HPp.out.still G2.out) hsq hsp hlq hlp (HT.out.frm (HF4.out.trans G2.out))).mono ?_
        rintro e u3 ⟨rfl, g⟩
        have G3 := Lib.hid (G2.out.trans g)
        have Q3 := Lib.hid (Q2.out.trans g)
        clear g
        obtain ⟨b2, hb2⟩ : ∃ b, b = coversB qs ps := ⟨_, rfl⟩
        rw [← hb2]
        go_wp2_with fail
        refine (rcovers_any _ (HPq.out.still G3.out) (HPp.out.still G3.out) hsq hsp hlq hlp).mono ?_
        rintro e u4 ⟨rfl, g⟩
        have G4 := Lib.hid (G3.out.trans g)
        have Q4 := Lib.hid (Q3.out.trans g)
        clear g
        rw [← hb2]
        have t3 : (b2 == b2) = true := by cases b2 <;> rfl
        clear hb2
        go_wp2_with fail
        refine (covers_any _ (HPo.out.still Q4.out) (HPq.out.still G4.out) (cutL_small (by decide)) hsq hlo hlq (HT.out.frm (HF4.out.trans G4.out))).mono ?_
        rintro e u5 ⟨rfl, g⟩
        have G5 := Lib.hid (G4.out.trans g)
        have Q5 := Lib.hid (Q4.out.trans g)
        clear g
        obtain ⟨b4, hb4⟩ : ∃ b, b = coversB (cutL 20 4 raw) qs := ⟨_, rfl⟩
        rw [← hb4]
        go_wp2_with fail
        refine (rcovers_any _ (HPo.out.still Q5.out) (HPq.out.still G5.out) (cutL_small (by decide)) hsq hlo hlq).mono ?_
        rintro e u6 ⟨rfl, g⟩
        have G6 := Lib.hid (G5.out.trans g)
        have Q6 := Lib.hid (Q5.out.trans g)
        clear g
        rw [← hb4]
        have t5 : (b4 == b4) = true := by cases b4 <;> rfl
        clear hb4
        go_wp2_with fail
        refine (covers_any _ (HPq.out.still G6.out) (HPo.out.still Q6.out) hsq (cutL_small (by decide)) hlq hlo (HT.out.frm (HF4.out.trans G6.out))).mono ?_
        rintro e u7 ⟨rfl, g⟩
        have G7 := Lib.hid (G6.out.trans g)
        have Q7 := Lib.hid (Q6.out.trans g)
        clear g
        obtain ⟨b6, hb6⟩ : ∃ b, b = coversB qs (cutL 20 4 raw) := ⟨_, rfl⟩
        rw [← hb6]
        go_wp2_with fail
        refine (rcovers_any _ (HPq.out.still G7.out) (HPo.out.still Q7.out) hsq (cutL_small (by decide)) hlq hlo).mono ?_
        rintro e u8 ⟨rfl, g⟩
        have G8 := Lib.hid (G7.out.trans g)
        have Q8 := Lib.hid (Q7.out.trans g)
        clear g
        rw [← hb6]
        have t7 : (b6 == b6) = true := by cases b6 <;> rfl
        clear hb6
        go_wp2_with fail
        refine (covers_any _ (HPp.out.still G8.out) (HPp.out.still G8.out) hsp hsp hlp hlp (HT.out.frm (HF4.out.trans G8.out))).mono ?_
        rintro e u9 ⟨rfl, g⟩
        have G9 := Lib.hid (G8.out.trans g)
        have Q9 := Lib.hid (Q8.out.trans g)
        clear g
        rw [covers_self]
        go_wp2_with fail
        refine (rright_any _ (HPp.out.still G9.out) hsp hlp).mono ?_
        rintro e u10 ⟨rfl, g⟩
        have G10 := Lib.hid (G9.out.trans g)
        clear g
        have tt : (rightB ps == rightB ps) = true := by cases rightB ps <;> rfl
        go_wp2_with fail
        go_ret
        exact ⟨rfl, HF4.out.trans G10.out⟩
end Go.Proofs.YtgnjakaamgeibaaDoor
