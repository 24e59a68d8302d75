/-
  ShapePatterns: the law returns true. Conditions: the laid tables; the arguments lie in memory.
-/
import Derived.Test.YtgnjakaamgeibaaDoorShR
import Derived.Test.YtgnjakaamgeibaaDoorShS
import Derived.Test.YtgnjakaamgeibaaDoorSmp
import Derived.Test.YtgnjakaamgeibaaDoorMch
namespace Go.Proofs.YtgnjakaamgeibaaDoor
open Go.RowKit Go.Shelf
attribute [local go_sem] Oper.semAt_some

theorem sample_p {v : Value} {ps : List Pc} {ao : Option Addr} {n cap : Nat} {l : List Int} (w : World) (hP : Pcs w v ps) (hok : MdOk 5 ps) (hI : IntsAt w ao l) (hn : l.length = n) (hb : n ≤ maxLen) :
    Calls Tryd.prog 40 #[v, .slice ao n cap] w fun e w' => ∃ S : ByteArray, e = .returned (.string S) ∧ S.size ≤ 1000 ∧ Frm (fun _ => False) w w' := by
  refine (sample_any w hP (fun p hp => (hok.pc p hp).1) (fun p hp => by have := (hok.pc p hp).2; omega) hok.len hI hn hb).mono ?_
  rintro e w' ⟨rfl, hl, f⟩
  exact ⟨⟨(smpL ps l).toArray⟩, rfl, by show (smpL ps l).toArray.size ≤ 1000; rw [List.size_toArray]; exact hl, f⟩

set_option maxRecDepth 100000 in
set_option maxHeartbeats 8000000 in
theorem law_patterns {ao ao1 ao2 : Option Addr} {n cap n1 cap1 n2 cap2 : Nat} {l l1 : List Int} {raw : List Pc} (w : World) (hT : Tabs w) (hI : IntsAt w ao l) (hn : l.length = n) (hb : n ≤ maxLen) (hI1 : IntsAt w ao1 l1) (hn1 : l1.length = n1) (hb1 : n1 ≤ maxLen) (hR : PcsAt w ao2 raw) (hn2 : raw.length = n2) (hb2 : n2 ≤ maxLen) :
    Calls Tryd.prog 13 #[.slice ao n cap, .slice ao1 n1 cap1, .slice ao2 n2 cap2] w fun e w' => e = .returned (.bool true) ∧ Frm (fun _ => False) w w' := by
  obtain ⟨i0, hi0, hz0, hz1, hz2⟩ := pc_info
  subst hn2
  have hbr : raw.length ≤ 9223372036854775807 := by unfold maxLen at hb2; omega
  have HT := Lib.hid hT
  have HI := Lib.hid hI
  have HI1 := Lib.hid hI1
  have HR := Lib.hid hR
  have Hn := Lib.hid hn
  have Hn1 := Lib.hid hn1
  clear hT hI hI1 hR hb2 hn hn1
  go_enter Tryd.func13, Tryd.ntmps13
  go_wp2_with fail
  refine (sanity8_any w HT.out).mono ?_
  rintro e w1 ⟨rfl, f1⟩
  have HF := Lib.hid f1
  clear f1
  go_wp2_with fail
  refine (made_any w1 (HI.out.still HF.out) Hn.out hb).mono ?_
  rintro e w2 ⟨v8, rfl, hP8, f⟩
  have hok := made_ok l
  obtain ⟨hs8, hl8⟩ := md_small hok (Nat.le_refl _)
  generalize madeL l = ps at *
  have HF := Lib.hid (HF.out.trans f)
  have HP8 := Lib.hid hP8
  have hsm := sample_p (cap := cap1) w2 hP8 hok (HI1.out.still HF.out) Hn1.out hb1
  have Hsm := Lib.hid hsm
  clear f hP8 hok hsm
  go_wp2_with fail
  refine Hsm.out.mono ?_
  rintro e w3 ⟨S, rfl, hSz, f⟩
  have HF := Lib.hid (HF.out.trans f)
  have HP8 := Lib.hid (HP8.out.still f)
  have hpt := pat_any w3 HP8.out hs8 hl8 (HT.out.frm HF.out)
  have hrp := fun (W : World) (h : Pcs W v8 ps) => rpat_any W h hs8 hl8
  have hmt := fun (W : World) (h : Pcs W v8 ps) (hT : Tabs W) => matches_any W S (by omega) h hs8 hl8 hT
  have hin := pat_in (ps := ps) (t := S.data.toList)
  generalize patS ps = a at *
  have hcon := con_any a S (by omega)
  generalize inS a S.data.toList = ib at *
  generalize matchB ps S.data.toList = mb at *
  unfold shV at hpt hrp hcon
  have Hpt := Lib.hid hpt
  have Hrp := Lib.hid hrp
  have Hmt := Lib.hid hmt
  have Hin := Lib.hid hin
  have Hcon := Lib.hid hcon
  clear f Hsm hpt hrp hmt hin hcon
  go_wp2_with fail
  refine Hpt.out.mono ?_
  rintro e w4 ⟨rfl, f⟩
  have HF := Lib.hid (HF.out.trans f)
  have HP8 := Lib.hid (HP8.out.still f)
  clear f Hpt
  go_upto_region 5 with fail
  obtain ⟨W5, A, hW, hA, hf5, u0, u1, u2, u3, u4⟩ := one_sh w4 a.lo a.hi a.cl a.bg a.en
  rw [hW, hA]
  have HF := Lib.hid (HF.out.trans hf5)
  have HP8 := Lib.hid (HP8.out.still hf5)
  have Hu := Lib.hid (And.intro u0 (And.intro u1 (And.intro u2 (And.intro u3 u4))))
  have hlo : (cutL 20 4 raw).length ≤ 1000 := by unfold cutL; rw [List.length_map, List.length_take]; omega
  clear hW hA hf5 u0 u1 u2 u3 u4
  go_wp2_with fail
  go_loopw [11, 12] (fun v sk wr => ∃ k : Nat, sk = .int .i64 k ∧ k ≤ raw.length ∧ k ≤ 4 ∧ Pcs wr v (cutL 20 k raw) ∧ (∀ b, Blk v b → W5.heap.size ≤ b) ∧ Frm (fun _ => False) W5 wr) (fun _ sk _ => 4 - (intOf sk).toNat)
  case atStart => exact ⟨0, rfl, Nat.zero_le _, Nat.zero_le _, Pcs.nil _, fun b hb => absurd hb Blk.nil, Frm.refl _ _⟩
  case round =>
    obtain ⟨k, rfl, hk, hk6, hPo, hnew, hf⟩ := hrel
    by_cases hlt : k < raw.length ∧ k < 4
    · obtain ⟨h1, h2⟩ := hlt
      have h1' : (k : Int) < (raw.length : Int) := by omega
      have h2' : (k : Int) < 4 := by omega
      obtain ⟨lb, lo, hao, ⟨c0, c1, c2, c3⟩, hsz⟩ := HR.out k h1
      subst hao
      have d0 := (HF.out.trans hf).cell c0 (fun h => h)
      have d1 := (HF.out.trans hf).cell c1 (fun h => h)
      have d2 := (HF.out.trans hf).cell c2 (fun h => h)
      have d3 := (HF.out.trans hf).cell c3 (fun h => h)
      have hcs := cutL_succ (n := 20) h1
      have hcl := cutL_len (n := 20) hk
      have hcp : cutP 20 raw[k] = ⟨raw[k].cls, raw[k].lo, raw[k].hi, raw[k].txt.extract 0 (min raw[k].txt.size 20)⟩ := rfl
      rw [hcp] at hcs
      obtain ⟨ao3, cap3, hv3⟩ := hPo.form
      rw [hcl] at hv3
      subst hv3
      have hs1 := extc raw[k].txt (min raw[k].txt.size 20) (by omega)
      have e1 : min (raw[k].txt.size : Int) 20 = ((min raw[k].txt.size 20 : Nat) : Int) := by omega
      generalize raw[k].txt.extract 0 (min raw[k].txt.size 20) = T at *
      generalize raw[k].cls = pc at *
      generalize raw[k].lo = pl at *
      generalize raw[k].hi = ph at *
      generalize raw[k].txt = pt at *
      generalize min pt.size 20 = m20 at *
      have hP2 := hPo.still ((Frm.refl (fun _ => False) wr).alloc (.cells #[.int .i64 pc, .int .i64 pl, .int .i64 ph, .string T] 53))
      have hf2 : Frm (fun _ => False) W5 (wr.alloc (.cells #[.int .i64 pc, .int .i64 pl, .int .i64 ph, .string T] 53)) := hf.alloc _
      have hN := heap_alloc_new wr (.cells #[.int .i64 pc, .int .i64 pl, .int .i64 ph, .string T] 53)
      have n3 : (wr.alloc (.cells #[.int .i64 pc, .int .i64 pl, .int .i64 ph, .string pt] 53)).cell? ⟨wr.heap.size, 3, none⟩ = some (.string pt) := by rw [cell_of_row _ wr.heap.size _ _ _ _ (heap_alloc_new wr _)]; rfl
      have nz := frozen_of_row _ wr.heap.size 3 _ _ (heap_alloc_new wr (.cells #[.int .i64 pc, .int .i64 pl, .int .i64 ph, .string pt] 53))
      have Hnew := Lib.hid hnew
      have Hcs := Lib.hid hcs
      have Hcl := Lib.hid hcl
      clear hnew hcs hcl hcp hPo c0 c1 c2 c3
      go_upto_region 11 with fail
      clear d0 d1 d2 d3
      obtain ⟨W2, hW2⟩ : ∃ W, W = wr.alloc (.cells #[.int .i64 pc, .int .i64 pl, .int .i64 ph, .string T] 53) := ⟨_, rfl⟩
      obtain ⟨xb, hxb⟩ : ∃ b, b = wr.heap.size := ⟨_, rfl⟩
      rw [← hW2, ← hxb] at hN
      rw [← hW2] at hP2 hf2
      rw [← hW2, ← hxb]
      clear hW2 hxb n3 nz hf hs1 e1
      have b0 : W2.cell? ⟨xb, 0, none⟩ = some (.int .i64 pc) := by rw [cell_of_row W2 xb _ _ _ _ hN]; rfl
      have b1 : W2.cell? ⟨xb, 1, none⟩ = some (.int .i64 pl) := by rw [cell_of_row W2 xb _ _ _ _ hN]; rfl
      have b2 : W2.cell? ⟨xb, 2, none⟩ = some (.int .i64 ph) := by rw [cell_of_row W2 xb _ _ _ _ hN]; rfl
      have b3 : W2.cell? ⟨xb, 3, none⟩ = some (.string T) := by rw [cell_of_row W2 xb _ _ _ _ hN]; rfl
      have hbA : (W2.alloc (.cells #[.int .i64 pc, .int .i64 pl, .int .i64 ph, .string T] 53)).ownsRow 0 53 4 (.slice ao3 k cap3) k ((cutL 20 k raw).flatMap pcC) := by
        have := hP2.still ((Frm.refl (fun _ => False) W2).alloc (.cells #[.int .i64 pc, .int .i64 pl, .int .i64 ph, .string T] 53))
        unfold Pcs at this
        rw [Hcl.out] at this
        exact this
      have Hf2 := Lib.hid hf2
      clear hP2 hf2 hN
      go_wp2_with (at_builtin; refine wpList_append_one rfl _ _ 46 rfl 53 i0 (.agg #[.int .i64 0, .int .i64 0, .int .i64 0, .string ⟨#[]⟩]) 4 40 Tryd.underlying46 hi0 hz0 hz1 hz2 rfl (by decide) _ _ _ rfl hbA ⟨W2.heap.size, 0, none⟩ 1 [.int .i64 pc, .int .i64 pl, .int .i64 ph, .string T] rfl rfl (new_cells W2 #[.int .i64 pc, .int .i64 pl, .int .i64 ph, .string T] 53 W2.heap.size rfl) (by intro u hu; simp at hu; rcases hu with rfl | rfl | rfl | rfl <;> rfl) (by omega) (by unfold maxLen; omega) ?_)
      intro g cap4 w8 hown hfrm hgg
      have hP8 : Pcs w8 (.slice (some ⟨g, 0, none⟩) (k + 1) cap4) (cutL 20 (k + 1) raw) := by
        rw [Hcs.out]
        exact Pcs.grow (by rw [Hcl.out]) hown
      have hn8 : ∀ b, Blk (.slice (some ⟨g, 0, none⟩) (k + 1) cap4) b → W5.heap.size ≤ b := fun b hb => by
        obtain rfl := Blk.some.1 hb
        rcases hgg with e | e
        · exact Hnew.out _ e
        · try rw [World.size_alloc] at e
          have := Hf2.out.size
          omega
      have hf8 : Frm (fun _ => False) W5 w8 := (Hf2.out.alloc _).trans' hfrm (fun k hk => .inr (Hnew.out _ hk))
      have H8 := Lib.hid hP8
      have HN8 := Lib.hid hn8
      have HF8 := Lib.hid hf8
      clear hown hfrm hgg hP8 hn8 hf8 hbA
      go_wp2_with fail
      go_roundw
      case rel => exact ⟨k + 1, by go_num, by omega, by omega, H8.out, HN8.out, HF8.out⟩
      case measure => simp [intOf]; omega
    · have hall : cutL 20 k raw = cutL 20 4 raw := by
        by_cases h : k < raw.length
        · obtain rfl : k = 4 := by omega
          rfl
        · obtain rfl : k = raw.length := by omega
          exact (cutL_all hk6).symm
      rw [hall] at hPo
      have Hnew := Lib.hid hnew
      have HPo := Lib.hid hPo
      have Hf := Lib.hid hf
      clear hnew hPo hf hall
      by_cases h1 : k < raw.length
      · have h2 : ¬ ((k : Int) < 4) := by omega
        have h1' : (k : Int) < (raw.length : Int) := by omega
        obtain ⟨u0, u1, u2, u3, u4⟩ := Hu.out
        have u0 := Hf.out.cell u0 (fun h => h)
        have u1 := Hf.out.cell u1 (fun h => h)
        have u2 := Hf.out.cell u2 (fun h => h)
        have u3 := Hf.out.cell u3 (fun h => h)
        have u4 := Hf.out.cell u4 (fun h => h)
        have hp1 := fun (W : World) (f : Frm (fun _ => False) wr W) => Hrp.out W (HP8.out.still (Hf.out.trans f))
        have hso := cutL_small (n := 20) (m := 4) (q := raw) (by decide)
        have hp2 := fun (W : World) (f : Frm (fun _ => False) wr W) => pat_any W (HPo.out.still f) hso hlo (HT.out.frm (HF.out.trans (Hf.out.trans f)))
        have hp3 := fun (W : World) (f : Frm (fun _ => False) wr W) => rpat_any W (HPo.out.still f) hso hlo
        have hp4 := fun (W : World) (f : Frm (fun _ => False) wr W) => Hmt.out W (HP8.out.still (Hf.out.trans f)) (HT.out.frm (HF.out.trans (Hf.out.trans f)))
        generalize patS (cutL 20 4 raw) = po at *
        unfold shV at hp2 hp3
        have Hp1 := Lib.hid hp1
        have Hp2 := Lib.hid hp2
        have Hp3 := Lib.hid hp3
        have Hp4 := Lib.hid hp4
        clear hp1 hp2 hp3 hp4 hso
        obtain ⟨aoX, capX, hvX⟩ := HPo.out.form
        subst hvX
        go_upto_region 12 with fail
        have HX := Lib.hid (Frm.refl (fun _ => False) wr).drew
        cases mb
        · skip
          refine wp_region_held_drew (S := fun w' => w'.cell? ⟨A, 0, none⟩ = some (.int .i64 (a.lo)) ∧ w'.cell? ⟨A, 1, none⟩ = some (.int .i64 (a.hi)) ∧ w'.cell? ⟨A, 2, none⟩ = some (.int .i64 (a.cl)) ∧ w'.cell? ⟨A, 3, none⟩ = some (.string (a.bg)) ∧ w'.cell? ⟨A, 4, none⟩ = some (.string (a.en))) (by kernel_rfl) ⟨u0, u1, u2, u3, u4⟩ (fun hHeld => ?_)
          refine wpAnyH_take (i := 0) (oi := ⟨some 48, _, _, _, _, _⟩) (v := (.bool (true))) rfl (by kernel_rfl) (by kernel_rfl) (by kernel_rfl) (fun _ _ _ h => h) (.inl ⟨by rfl, fun w hw => by dsimp only at hw; go_simp⟩) hHeld ?_
          simp only [Act.put, List.setIfInBounds_toArray, List.set_cons_zero, List.set_cons_succ]
          refine wpAnyH_take (i := 1) (oi := ⟨some 49, _, _, _, _, _⟩) (v := (.bool (true))) rfl (by kernel_rfl) (by kernel_rfl) (by kernel_rfl) (fun _ _ _ h => h) (.inl ⟨by rfl, fun w hw => by dsimp only at hw; go_simp⟩) hHeld ?_
          simp only [Act.put, List.setIfInBounds_toArray, List.set_cons_zero, List.set_cons_succ]
          refine wpAnyH_take (i := 2) (oi := ⟨some 50, _, _, _, _, _⟩) (v := (.agg #[.int .i64 (a.lo), .int .i64 (a.hi), .int .i64 (a.cl), .string (a.bg), .string (a.en)])) rfl (by kernel_rfl) (by kernel_rfl) (by kernel_rfl) (fun _ _ _ h => h) (.inl ⟨by rfl, fun w hw => by dsimp only at hw; go_simp⟩) hHeld ?_
          simp only [Act.put, List.setIfInBounds_toArray, List.set_cons_zero, List.set_cons_succ]
          refine wpAnyH_take (i := 3) (oi := ⟨some 51, _, _, _, _, _⟩) (v := (v8)) rfl (by kernel_rfl) (by kernel_rfl) (by kernel_rfl) (fun _ _ _ h => h) (.inl ⟨by rfl, fun w hw => by dsimp only at hw; go_simp⟩) hHeld ?_
          simp only [Act.put, List.setIfInBounds_toArray, List.set_cons_zero, List.set_cons_succ]
          refine wpAnyH_ready (rs := [4]) (by kernel_rfl) (by simp) ?_
          refine AllReadyH.cons (o := ⟨some 52, _, _, _, _, _⟩) rfl (fun K hK => ?_) AllReadyH.nil
          go_simp
          refine (Hp1.out _ HX.out).mono ?_
          rintro e Vz1 ⟨rfl, fz1⟩
          have HFz1 := Lib.hid (HX.out.trans fz1)
          refine hK.out _ _ ⟨fz1.cell hHeld.1 (fun h => h), fz1.cell hHeld.2.1 (fun h => h), fz1.cell hHeld.2.2.1 (fun h => h), fz1.cell hHeld.2.2.2.1 (fun h => h), fz1.cell hHeld.2.2.2.2 (fun h => h)⟩ (fun hHeld => ?_)
          clear hK K fz1 HX
          refine wpAnyH_take (i := 5) (oi := ⟨some 53, _, _, _, _, _⟩) (v := (.bool (true))) rfl (by kernel_rfl) (by kernel_rfl) (by kernel_rfl) (fun _ _ _ h => h) (.inl ⟨by rfl, fun w hw => by dsimp only at hw; go_simp⟩) hHeld ?_
          simp only [Act.put, List.setIfInBounds_toArray, List.set_cons_zero, List.set_cons_succ]
          refine wpAnyH_take (i := 6) (oi := ⟨some 54, _, _, _, _, _⟩) (v := (.bool (true))) rfl (by kernel_rfl) (by kernel_rfl) (by kernel_rfl) (fun _ _ _ h => h) (.inl ⟨by rfl, fun w hw => by dsimp only at hw; go_simp⟩) hHeld ?_
          simp only [Act.put, List.setIfInBounds_toArray, List.set_cons_zero, List.set_cons_succ]
          refine wpAnyH_take (i := 7) (oi := ⟨some 55, _, _, _, _, _⟩) (v := (.bool (true))) rfl (by kernel_rfl) (by kernel_rfl) (by kernel_rfl) (fun _ _ _ h => h) (.inl ⟨by rfl, fun w hw => by dsimp only at hw; go_simp⟩) hHeld ?_
          simp only [Act.put, List.setIfInBounds_toArray, List.set_cons_zero, List.set_cons_succ]
          refine wpAnyH_take (i := 8) (oi := ⟨some 56, _, _, _, _, _⟩) (v := (.slice aoX (cutL 20 4 raw).length capX)) rfl (by kernel_rfl) (by kernel_rfl) (by kernel_rfl) (fun _ _ _ h => h) (.inl ⟨by rfl, fun w hw => by dsimp only at hw; go_simp⟩) hHeld ?_
          simp only [Act.put, List.setIfInBounds_toArray, List.set_cons_zero, List.set_cons_succ]
          refine wpAnyH_take (i := 10) (oi := ⟨some 58, _, _, _, _, _⟩) (v := (.slice aoX (cutL 20 4 raw).length capX)) rfl (by kernel_rfl) (by kernel_rfl) (by kernel_rfl) (fun _ _ _ h => h) (.inl ⟨by rfl, fun w hw => by dsimp only at hw; go_simp⟩) hHeld ?_
          simp only [Act.put, List.setIfInBounds_toArray, List.set_cons_zero, List.set_cons_succ]
          refine wpAnyH_ready (rs := [9]) (by kernel_rfl) (by simp) ?_
          refine AllReadyH.cons (o := ⟨some 57, _, _, _, _, _⟩) rfl (fun K hK => ?_) AllReadyH.nil
          go_simp
          refine (Hp2.out _ HFz1.out).mono ?_
          rintro e Vz2 ⟨rfl, fz2⟩
          have HFz2 := Lib.hid (HFz1.out.trans fz2)
          refine hK.out _ _ ⟨fz2.cell hHeld.1 (fun h => h), fz2.cell hHeld.2.1 (fun h => h), fz2.cell hHeld.2.2.1 (fun h => h), fz2.cell hHeld.2.2.2.1 (fun h => h), fz2.cell hHeld.2.2.2.2 (fun h => h)⟩ (fun hHeld => ?_)
          clear hK K fz2 HFz1
          refine wpAnyH_ready (rs := [11]) (by kernel_rfl) (by simp) ?_
          refine AllReadyH.cons (o := ⟨some 59, _, _, _, _, _⟩) rfl (fun K hK => ?_) AllReadyH.nil
          go_simp
          refine (Hp3.out _ HFz2.out).mono ?_
          rintro e Vz3 ⟨rfl, fz3⟩
          have HFz3 := Lib.hid (HFz2.out.trans fz3)
          refine hK.out _ _ ⟨fz3.cell hHeld.1 (fun h => h), fz3.cell hHeld.2.1 (fun h => h), fz3.cell hHeld.2.2.1 (fun h => h), fz3.cell hHeld.2.2.2.1 (fun h => h), fz3.cell hHeld.2.2.2.2 (fun h => h)⟩ (fun hHeld => ?_)
          clear hK K fz3 HFz2
          refine wpAnyH_take (i := 12) (oi := ⟨some 60, _, _, _, _, _⟩) (v := (.bool (true))) rfl (by kernel_rfl) (by kernel_rfl) (by kernel_rfl) (fun _ _ _ h => h) (.inl ⟨by rfl, fun w hw => by dsimp only at hw; go_simp⟩) hHeld ?_
          simp only [Act.put, List.setIfInBounds_toArray, List.set_cons_zero, List.set_cons_succ]
          refine wpAnyH_take (i := 13) (oi := ⟨some 61, _, _, _, _, _⟩) (v := (.bool (true))) rfl (by kernel_rfl) (by kernel_rfl) (by kernel_rfl) (fun _ _ _ h => h) (.inl ⟨by rfl, fun w hw => by dsimp only at hw; go_simp⟩) hHeld ?_
          simp only [Act.put, List.setIfInBounds_toArray, List.set_cons_zero, List.set_cons_succ]
          refine wpAnyH_take (i := 14) (oi := ⟨some 62, _, _, _, _, _⟩) (v := (.bool (true))) rfl (by kernel_rfl) (by kernel_rfl) (by kernel_rfl) (fun _ _ _ h => h) (.inl ⟨by rfl, fun w hw => by dsimp only at hw; go_simp⟩) hHeld ?_
          simp only [Act.put, List.setIfInBounds_toArray, List.set_cons_zero, List.set_cons_succ]
          refine wpAnyH_take (i := 15) (oi := ⟨some 63, _, _, _, _, _⟩) (v := (v8)) rfl (by kernel_rfl) (by kernel_rfl) (by kernel_rfl) (fun _ _ _ h => h) (.inl ⟨by rfl, fun w hw => by dsimp only at hw; go_simp⟩) hHeld ?_
          simp only [Act.put, List.setIfInBounds_toArray, List.set_cons_zero, List.set_cons_succ]
          refine wpAnyH_take (i := 16) (oi := ⟨some 64, _, _, _, _, _⟩) (v := (.string (S))) rfl (by kernel_rfl) (by kernel_rfl) (by kernel_rfl) (fun _ _ _ h => h) (.inl ⟨by rfl, fun w hw => by dsimp only at hw; go_simp⟩) hHeld ?_
          simp only [Act.put, List.setIfInBounds_toArray, List.set_cons_zero, List.set_cons_succ]
          refine wpAnyH_ready (rs := [17]) (by kernel_rfl) (by simp) ?_
          refine AllReadyH.cons (o := ⟨some 65, _, _, _, _, _⟩) rfl (fun K hK => ?_) AllReadyH.nil
          go_simp
          refine (Hp4.out _ HFz3.out).mono ?_
          rintro e Vz4 ⟨rfl, fz4⟩
          have HFz4 := Lib.hid (HFz3.out.trans fz4)
          refine hK.out _ _ ⟨fz4.cell hHeld.1 (fun h => h), fz4.cell hHeld.2.1 (fun h => h), fz4.cell hHeld.2.2.1 (fun h => h), fz4.cell hHeld.2.2.2.1 (fun h => h), fz4.cell hHeld.2.2.2.2 (fun h => h)⟩ (fun hHeld => ?_)
          clear hK K fz4 HFz3
          refine wpAnyH_take (i := 18) (oi := ⟨some 66, _, _, _, _, _⟩) (v := (.bool (true))) rfl (by kernel_rfl) (by kernel_rfl) (by kernel_rfl) (fun _ _ _ h => h) (.inl ⟨by rfl, fun w hw => by dsimp only at hw; go_simp⟩) hHeld ?_
          simp only [Act.put, List.setIfInBounds_toArray, List.set_cons_zero, List.set_cons_succ]
          refine wpAnyH_take (i := 19) (oi := ⟨some 67, _, _, _, _, _⟩) (v := (.bool (true))) rfl (by kernel_rfl) (by kernel_rfl) (by kernel_rfl) (fun _ _ _ h => h) (.inl ⟨by rfl, fun w hw => by dsimp only at hw; go_simp⟩) hHeld ?_
          simp only [Act.put, List.setIfInBounds_toArray, List.set_cons_zero, List.set_cons_succ]
          refine wpAnyH_take (i := 20) (oi := ⟨some 68, _, _, _, _, _⟩) rfl (by kernel_rfl) (by kernel_rfl) (by kernel_rfl) (fun _ _ _ h => h) (.inr ⟨by rfl, rfl⟩) hHeld ?_
          simp only [Act.put, List.setIfInBounds_toArray, List.set_cons_zero, List.set_cons_succ]
          refine wpAnyH_take (i := 21) (oi := ⟨some 69, _, _, _, _, _⟩) rfl (by kernel_rfl) (by kernel_rfl) (by kernel_rfl) (fun _ _ _ h => h) (.inr ⟨by rfl, rfl⟩) hHeld ?_
          simp only [Act.put, List.setIfInBounds_toArray, List.set_cons_zero, List.set_cons_succ]
          refine wpAnyH_take (i := 22) (oi := ⟨some 70, _, _, _, _, _⟩) rfl (by kernel_rfl) (by kernel_rfl) (by kernel_rfl) (fun _ _ _ h => h) (.inr ⟨by rfl, rfl⟩) hHeld ?_
          simp only [Act.put, List.setIfInBounds_toArray, List.set_cons_zero, List.set_cons_succ]
          refine wpAnyH_take (i := 23) (oi := ⟨some 71, _, _, _, _, _⟩) (v := (.bool (true))) rfl (by kernel_rfl) (by kernel_rfl) (by kernel_rfl) (fun _ _ _ h => h) (.inl ⟨by rfl, fun w hw => by dsimp only at hw; go_simp⟩) hHeld ?_
          simp only [Act.put, List.setIfInBounds_toArray, List.set_cons_zero, List.set_cons_succ]
          refine wpAnyH_take (i := 24) (oi := ⟨some 72, _, _, _, _, _⟩) (v := (.bool (true))) rfl (by kernel_rfl) (by kernel_rfl) (by kernel_rfl) (fun _ _ _ h => h) (.inl ⟨by rfl, fun w hw => by dsimp only at hw; go_simp⟩) hHeld ?_
          simp only [Act.put, List.setIfInBounds_toArray, List.set_cons_zero, List.set_cons_succ]
          refine wpAnyH_take (i := 25) (oi := ⟨some 6, _, _, _, _, _⟩) (v := (.bool (true))) rfl (by kernel_rfl) (by kernel_rfl) (by kernel_rfl) (fun _ _ _ h => h) (.inl ⟨by rfl, fun w hw => by dsimp only at hw; go_simp⟩) hHeld ?_
          simp only [Act.put, List.setIfInBounds_toArray, List.set_cons_zero, List.set_cons_succ]
          refine wpAnyH_done (by kernel_rfl) ?_ _
          have Hfe := Lib.hid HFz4.out
          clear HFz4 hHeld u0 u1 u2 u3 u4
          go_wp2_with fail
          go_ret
          exact ⟨rfl, HF.out.trans (Hf.out.trans Hfe.out)⟩
        · skip
          have hib := Hin.out rfl
          subst hib
          refine wp_region_held_drew (S := fun w' => w'.cell? ⟨A, 0, none⟩ = some (.int .i64 (a.lo)) ∧ w'.cell? ⟨A, 1, none⟩ = some (.int .i64 (a.hi)) ∧ w'.cell? ⟨A, 2, none⟩ = some (.int .i64 (a.cl)) ∧ w'.cell? ⟨A, 3, none⟩ = some (.string (a.bg)) ∧ w'.cell? ⟨A, 4, none⟩ = some (.string (a.en))) (by kernel_rfl) ⟨u0, u1, u2, u3, u4⟩ (fun hHeld => ?_)
          refine wpAnyH_take (i := 0) (oi := ⟨some 48, _, _, _, _, _⟩) (v := (.bool (true))) rfl (by kernel_rfl) (by kernel_rfl) (by kernel_rfl) (fun _ _ _ h => h) (.inl ⟨by rfl, fun w hw => by dsimp only at hw; go_simp⟩) hHeld ?_
          simp only [Act.put, List.setIfInBounds_toArray, List.set_cons_zero, List.set_cons_succ]
          refine wpAnyH_take (i := 1) (oi := ⟨some 49, _, _, _, _, _⟩) (v := (.bool (true))) rfl (by kernel_rfl) (by kernel_rfl) (by kernel_rfl) (fun _ _ _ h => h) (.inl ⟨by rfl, fun w hw => by dsimp only at hw; go_simp⟩) hHeld ?_
          simp only [Act.put, List.setIfInBounds_toArray, List.set_cons_zero, List.set_cons_succ]
          refine wpAnyH_take (i := 2) (oi := ⟨some 50, _, _, _, _, _⟩) (v := (.agg #[.int .i64 (a.lo), .int .i64 (a.hi), .int .i64 (a.cl), .string (a.bg), .string (a.en)])) rfl (by kernel_rfl) (by kernel_rfl) (by kernel_rfl) (fun _ _ _ h => h) (.inl ⟨by rfl, fun w hw => by dsimp only at hw; go_simp⟩) hHeld ?_
          simp only [Act.put, List.setIfInBounds_toArray, List.set_cons_zero, List.set_cons_succ]
          refine wpAnyH_take (i := 3) (oi := ⟨some 51, _, _, _, _, _⟩) (v := (v8)) rfl (by kernel_rfl) (by kernel_rfl) (by kernel_rfl) (fun _ _ _ h => h) (.inl ⟨by rfl, fun w hw => by dsimp only at hw; go_simp⟩) hHeld ?_
          simp only [Act.put, List.setIfInBounds_toArray, List.set_cons_zero, List.set_cons_succ]
          refine wpAnyH_ready (rs := [4]) (by kernel_rfl) (by simp) ?_
          refine AllReadyH.cons (o := ⟨some 52, _, _, _, _, _⟩) rfl (fun K hK => ?_) AllReadyH.nil
          go_simp
          refine (Hp1.out _ HX.out).mono ?_
          rintro e Vz1 ⟨rfl, fz1⟩
          have HFz1 := Lib.hid (HX.out.trans fz1)
          refine hK.out _ _ ⟨fz1.cell hHeld.1 (fun h => h), fz1.cell hHeld.2.1 (fun h => h), fz1.cell hHeld.2.2.1 (fun h => h), fz1.cell hHeld.2.2.2.1 (fun h => h), fz1.cell hHeld.2.2.2.2 (fun h => h)⟩ (fun hHeld => ?_)
          clear hK K fz1 HX
          refine wpAnyH_take (i := 5) (oi := ⟨some 53, _, _, _, _, _⟩) (v := (.bool (true))) rfl (by kernel_rfl) (by kernel_rfl) (by kernel_rfl) (fun _ _ _ h => h) (.inl ⟨by rfl, fun w hw => by dsimp only at hw; go_simp⟩) hHeld ?_
          simp only [Act.put, List.setIfInBounds_toArray, List.set_cons_zero, List.set_cons_succ]
          refine wpAnyH_take (i := 6) (oi := ⟨some 54, _, _, _, _, _⟩) (v := (.bool (true))) rfl (by kernel_rfl) (by kernel_rfl) (by kernel_rfl) (fun _ _ _ h => h) (.inl ⟨by rfl, fun w hw => by dsimp only at hw; go_simp⟩) hHeld ?_
          simp only [Act.put, List.setIfInBounds_toArray, List.set_cons_zero, List.set_cons_succ]
          refine wpAnyH_take (i := 7) (oi := ⟨some 55, _, _, _, _, _⟩) (v := (.bool (true))) rfl (by kernel_rfl) (by kernel_rfl) (by kernel_rfl) (fun _ _ _ h => h) (.inl ⟨by rfl, fun w hw => by dsimp only at hw; go_simp⟩) hHeld ?_
          simp only [Act.put, List.setIfInBounds_toArray, List.set_cons_zero, List.set_cons_succ]
          refine wpAnyH_take (i := 8) (oi := ⟨some 56, _, _, _, _, _⟩) (v := (.slice aoX (cutL 20 4 raw).length capX)) rfl (by kernel_rfl) (by kernel_rfl) (by kernel_rfl) (fun _ _ _ h => h) (.inl ⟨by rfl, fun w hw => by dsimp only at hw; go_simp⟩) hHeld ?_
          simp only [Act.put, List.setIfInBounds_toArray, List.set_cons_zero, List.set_cons_succ]
          refine wpAnyH_take (i := 10) (oi := ⟨some 58, _, _, _, _, _⟩) (v := (.slice aoX (cutL 20 4 raw).length capX)) rfl (by kernel_rfl) (by kernel_rfl) (by kernel_rfl) (fun _ _ _ h => h) (.inl ⟨by rfl, fun w hw => by dsimp only at hw; go_simp⟩) hHeld ?_
          simp only [Act.put, List.setIfInBounds_toArray, List.set_cons_zero, List.set_cons_succ]
          refine wpAnyH_ready (rs := [9]) (by kernel_rfl) (by simp) ?_
          refine AllReadyH.cons (o := ⟨some 57, _, _, _, _, _⟩) rfl (fun K hK => ?_) AllReadyH.nil
          go_simp
          refine (Hp2.out _ HFz1.out).mono ?_
          rintro e Vz2 ⟨rfl, fz2⟩
          have HFz2 := Lib.hid (HFz1.out.trans fz2)
          refine hK.out _ _ ⟨fz2.cell hHeld.1 (fun h => h), fz2.cell hHeld.2.1 (fun h => h), fz2.cell hHeld.2.2.1 (fun h => h), fz2.cell hHeld.2.2.2.1 (fun h => h), fz2.cell hHeld.2.2.2.2 (fun h => h)⟩ (fun hHeld => ?_)
          clear hK K fz2 HFz1
          refine wpAnyH_ready (rs := [11]) (by kernel_rfl) (by simp) ?_
          refine AllReadyH.cons (o := ⟨some 59, _, _, _, _, _⟩) rfl (fun K hK => ?_) AllReadyH.nil
          go_simp
          refine (Hp3.out _ HFz2.out).mono ?_
          rintro e Vz3 ⟨rfl, fz3⟩
          have HFz3 := Lib.hid (HFz2.out.trans fz3)
          refine hK.out _ _ ⟨fz3.cell hHeld.1 (fun h => h), fz3.cell hHeld.2.1 (fun h => h), fz3.cell hHeld.2.2.1 (fun h => h), fz3.cell hHeld.2.2.2.1 (fun h => h), fz3.cell hHeld.2.2.2.2 (fun h => h)⟩ (fun hHeld => ?_)
          clear hK K fz3 HFz2
          refine wpAnyH_take (i := 12) (oi := ⟨some 60, _, _, _, _, _⟩) (v := (.bool (true))) rfl (by kernel_rfl) (by kernel_rfl) (by kernel_rfl) (fun _ _ _ h => h) (.inl ⟨by rfl, fun w hw => by dsimp only at hw; go_simp⟩) hHeld ?_
          simp only [Act.put, List.setIfInBounds_toArray, List.set_cons_zero, List.set_cons_succ]
          refine wpAnyH_take (i := 13) (oi := ⟨some 61, _, _, _, _, _⟩) (v := (.bool (true))) rfl (by kernel_rfl) (by kernel_rfl) (by kernel_rfl) (fun _ _ _ h => h) (.inl ⟨by rfl, fun w hw => by dsimp only at hw; go_simp⟩) hHeld ?_
          simp only [Act.put, List.setIfInBounds_toArray, List.set_cons_zero, List.set_cons_succ]
          refine wpAnyH_take (i := 14) (oi := ⟨some 62, _, _, _, _, _⟩) (v := (.bool (true))) rfl (by kernel_rfl) (by kernel_rfl) (by kernel_rfl) (fun _ _ _ h => h) (.inl ⟨by rfl, fun w hw => by dsimp only at hw; go_simp⟩) hHeld ?_
          simp only [Act.put, List.setIfInBounds_toArray, List.set_cons_zero, List.set_cons_succ]
          refine wpAnyH_take (i := 15) (oi := ⟨some 63, _, _, _, _, _⟩) (v := (v8)) rfl (by kernel_rfl) (by kernel_rfl) (by kernel_rfl) (fun _ _ _ h => h) (.inl ⟨by rfl, fun w hw => by dsimp only at hw; go_simp⟩) hHeld ?_
          simp only [Act.put, List.setIfInBounds_toArray, List.set_cons_zero, List.set_cons_succ]
          refine wpAnyH_take (i := 16) (oi := ⟨some 64, _, _, _, _, _⟩) (v := (.string (S))) rfl (by kernel_rfl) (by kernel_rfl) (by kernel_rfl) (fun _ _ _ h => h) (.inl ⟨by rfl, fun w hw => by dsimp only at hw; go_simp⟩) hHeld ?_
          simp only [Act.put, List.setIfInBounds_toArray, List.set_cons_zero, List.set_cons_succ]
          refine wpAnyH_ready (rs := [17]) (by kernel_rfl) (by simp) ?_
          refine AllReadyH.cons (o := ⟨some 65, _, _, _, _, _⟩) rfl (fun K hK => ?_) AllReadyH.nil
          go_simp
          refine (Hp4.out _ HFz3.out).mono ?_
          rintro e Vz4 ⟨rfl, fz4⟩
          have HFz4 := Lib.hid (HFz3.out.trans fz4)
          refine hK.out _ _ ⟨fz4.cell hHeld.1 (fun h => h), fz4.cell hHeld.2.1 (fun h => h), fz4.cell hHeld.2.2.1 (fun h => h), fz4.cell hHeld.2.2.2.1 (fun h => h), fz4.cell hHeld.2.2.2.2 (fun h => h)⟩ (fun hHeld => ?_)
          clear hK K fz4 HFz3
          refine wpAnyH_take (i := 18) (oi := ⟨some 66, _, _, _, _, _⟩) (v := (.bool (false))) rfl (by kernel_rfl) (by kernel_rfl) (by kernel_rfl) (fun _ _ _ h => h) (.inl ⟨by rfl, fun w hw => by dsimp only at hw; go_simp⟩) hHeld ?_
          simp only [Act.put, List.setIfInBounds_toArray, List.set_cons_zero, List.set_cons_succ]
          refine wpAnyH_take (i := 19) (oi := ⟨some 67, _, _, _, _, _⟩) (v := (.bool (false))) rfl (by kernel_rfl) (by kernel_rfl) (by kernel_rfl) (fun _ _ _ h => h) (.inl ⟨by rfl, fun w hw => by dsimp only at hw; go_simp⟩) hHeld ?_
          simp only [Act.put, List.setIfInBounds_toArray, List.set_cons_zero, List.set_cons_succ]
          refine wpAnyH_take (i := 20) (oi := ⟨some 68, _, _, _, _, _⟩) (v := (.agg #[.int .i64 (a.lo), .int .i64 (a.hi), .int .i64 (a.cl), .string (a.bg), .string (a.en)])) rfl (by kernel_rfl) (by kernel_rfl) (by kernel_rfl) (fun _ _ _ h => h) (.inl ⟨by rfl, fun w hw => by dsimp only at hw; go_simp⟩) hHeld ?_
          simp only [Act.put, List.setIfInBounds_toArray, List.set_cons_zero, List.set_cons_succ]
          refine wpAnyH_take (i := 21) (oi := ⟨some 69, _, _, _, _, _⟩) (v := (.string (S))) rfl (by kernel_rfl) (by kernel_rfl) (by kernel_rfl) (fun _ _ _ h => h) (.inl ⟨by rfl, fun w hw => by dsimp only at hw; go_simp⟩) hHeld ?_
          simp only [Act.put, List.setIfInBounds_toArray, List.set_cons_zero, List.set_cons_succ]
          refine wpAnyH_ready (rs := [22]) (by kernel_rfl) (by simp) ?_
          refine AllReadyH.cons (o := ⟨some 70, _, _, _, _, _⟩) rfl (fun K hK => ?_) AllReadyH.nil
          go_simp
          refine (Hcon.out _).mono ?_
          rintro e Vz5 ⟨rfl, fz5⟩
          have HFz5 := Lib.hid (HFz4.out.trans fz5)
          refine hK.out _ _ ⟨fz5.cell hHeld.1 (fun h => h), fz5.cell hHeld.2.1 (fun h => h), fz5.cell hHeld.2.2.1 (fun h => h), fz5.cell hHeld.2.2.2.1 (fun h => h), fz5.cell hHeld.2.2.2.2 (fun h => h)⟩ (fun hHeld => ?_)
          clear hK K fz5 HFz4
          refine wpAnyH_take (i := 23) (oi := ⟨some 71, _, _, _, _, _⟩) (v := (.bool (true))) rfl (by kernel_rfl) (by kernel_rfl) (by kernel_rfl) (fun _ _ _ h => h) (.inl ⟨by rfl, fun w hw => by dsimp only at hw; go_simp⟩) hHeld ?_
          simp only [Act.put, List.setIfInBounds_toArray, List.set_cons_zero, List.set_cons_succ]
          refine wpAnyH_take (i := 24) (oi := ⟨some 72, _, _, _, _, _⟩) (v := (.bool (true))) rfl (by kernel_rfl) (by kernel_rfl) (by kernel_rfl) (fun _ _ _ h => h) (.inl ⟨by rfl, fun w hw => by dsimp only at hw; go_simp⟩) hHeld ?_
          simp only [Act.put, List.setIfInBounds_toArray, List.set_cons_zero, List.set_cons_succ]
          refine wpAnyH_take (i := 25) (oi := ⟨some 6, _, _, _, _, _⟩) (v := (.bool (true))) rfl (by kernel_rfl) (by kernel_rfl) (by kernel_rfl) (fun _ _ _ h => h) (.inl ⟨by rfl, fun w hw => by dsimp only at hw; go_simp⟩) hHeld ?_
          simp only [Act.put, List.setIfInBounds_toArray, List.set_cons_zero, List.set_cons_succ]
          refine wpAnyH_done (by kernel_rfl) ?_ _
          have Hfe := Lib.hid HFz5.out
          clear HFz5 hHeld u0 u1 u2 u3 u4
          go_wp2_with fail
          go_ret
          exact ⟨rfl, HF.out.trans (Hf.out.trans Hfe.out)⟩
      · have h1' : ¬ ((k : Int) < (raw.length : Int)) := by omega
        obtain ⟨u0, u1, u2, u3, u4⟩ := Hu.out
        have u0 := Hf.out.cell u0 (fun h => h)
        have u1 := Hf.out.cell u1 (fun h => h)
        have u2 := Hf.out.cell u2 (fun h => h)
        have u3 := Hf.out.cell u3 (fun h => h)
        have u4 := Hf.out.cell u4 (fun h => h)
        have hp1 := fun (W : World) (f : Frm (fun _ => False) wr W) => Hrp.out W (HP8.out.still (Hf.out.trans f))
        have hso := cutL_small (n := 20) (m := 4) (q := raw) (by decide)
        have hp2 := fun (W : World) (f : Frm (fun _ => False) wr W) => pat_any W (HPo.out.still f) hso hlo (HT.out.frm (HF.out.trans (Hf.out.trans f)))
        have hp3 := fun (W : World) (f : Frm (fun _ => False) wr W) => rpat_any W (HPo.out.still f) hso hlo
        have hp4 := fun (W : World) (f : Frm (fun _ => False) wr W) => Hmt.out W (HP8.out.still (Hf.out.trans f)) (HT.out.frm (HF.out.trans (Hf.out.trans f)))
        generalize patS (cutL 20 4 raw) = po at *
        unfold shV at hp2 hp3
        have Hp1 := Lib.hid hp1
        have Hp2 := Lib.hid hp2
        have Hp3 := Lib.hid hp3
        have Hp4 := Lib.hid hp4
        clear hp1 hp2 hp3 hp4 hso
        obtain ⟨aoX, capX, hvX⟩ := HPo.out.form
        subst hvX
        go_upto_region 12 with fail
        have HX := Lib.hid (Frm.refl (fun _ => False) wr).drew
        cases mb
        · skip
          refine wp_region_held_drew (S := fun w' => w'.cell? ⟨A, 0, none⟩ = some (.int .i64 (a.lo)) ∧ w'.cell? ⟨A, 1, none⟩ = some (.int .i64 (a.hi)) ∧ w'.cell? ⟨A, 2, none⟩ = some (.int .i64 (a.cl)) ∧ w'.cell? ⟨A, 3, none⟩ = some (.string (a.bg)) ∧ w'.cell? ⟨A, 4, none⟩ = some (.string (a.en))) (by kernel_rfl) ⟨u0, u1, u2, u3, u4⟩ (fun hHeld => ?_)
          refine wpAnyH_take (i := 0) (oi := ⟨some 48, _, _, _, _, _⟩) (v := (.bool (true))) rfl (by kernel_rfl) (by kernel_rfl) (by kernel_rfl) (fun _ _ _ h => h) (.inl ⟨by rfl, fun w hw => by dsimp only at hw; go_simp⟩) hHeld ?_
          simp only [Act.put, List.setIfInBounds_toArray, List.set_cons_zero, List.set_cons_succ]
          refine wpAnyH_take (i := 1) (oi := ⟨some 49, _, _, _, _, _⟩) (v := (.bool (true))) rfl (by kernel_rfl) (by kernel_rfl) (by kernel_rfl) (fun _ _ _ h => h) (.inl ⟨by rfl, fun w hw => by dsimp only at hw; go_simp⟩) hHeld ?_
          simp only [Act.put, List.setIfInBounds_toArray, List.set_cons_zero, List.set_cons_succ]
          refine wpAnyH_take (i := 2) (oi := ⟨some 50, _, _, _, _, _⟩) (v := (.agg #[.int .i64 (a.lo), .int .i64 (a.hi), .int .i64 (a.cl), .string (a.bg), .string (a.en)])) rfl (by kernel_rfl) (by kernel_rfl) (by kernel_rfl) (fun _ _ _ h => h) (.inl ⟨by rfl, fun w hw => by dsimp only at hw; go_simp⟩) hHeld ?_
          simp only [Act.put, List.setIfInBounds_toArray, List.set_cons_zero, List.set_cons_succ]
          refine wpAnyH_take (i := 3) (oi := ⟨some 51, _, _, _, _, _⟩) (v := (v8)) rfl (by kernel_rfl) (by kernel_rfl) (by kernel_rfl) (fun _ _ _ h => h) (.inl ⟨by rfl, fun w hw => by dsimp only at hw; go_simp⟩) hHeld ?_
          simp only [Act.put, List.setIfInBounds_toArray, List.set_cons_zero, List.set_cons_succ]
          refine wpAnyH_ready (rs := [4]) (by kernel_rfl) (by simp) ?_
          refine AllReadyH.cons (o := ⟨some 52, _, _, _, _, _⟩) rfl (fun K hK => ?_) AllReadyH.nil
          go_simp
          refine (Hp1.out _ HX.out).mono ?_
          rintro e Vz1 ⟨rfl, fz1⟩
          have HFz1 := Lib.hid (HX.out.trans fz1)
          refine hK.out _ _ ⟨fz1.cell hHeld.1 (fun h => h), fz1.cell hHeld.2.1 (fun h => h), fz1.cell hHeld.2.2.1 (fun h => h), fz1.cell hHeld.2.2.2.1 (fun h => h), fz1.cell hHeld.2.2.2.2 (fun h => h)⟩ (fun hHeld => ?_)
          clear hK K fz1 HX
          refine wpAnyH_take (i := 5) (oi := ⟨some 53, _, _, _, _, _⟩) (v := (.bool (true))) rfl (by kernel_rfl) (by kernel_rfl) (by kernel_rfl) (fun _ _ _ h => h) (.inl ⟨by rfl, fun w hw => by dsimp only at hw; go_simp⟩) hHeld ?_
          simp only [Act.put, List.setIfInBounds_toArray, List.set_cons_zero, List.set_cons_succ]
          refine wpAnyH_take (i := 6) (oi := ⟨some 54, _, _, _, _, _⟩) (v := (.bool (true))) rfl (by kernel_rfl) (by kernel_rfl) (by kernel_rfl) (fun _ _ _ h => h) (.inl ⟨by rfl, fun w hw => by dsimp only at hw; go_simp⟩) hHeld ?_
          simp only [Act.put, List.setIfInBounds_toArray, List.set_cons_zero, List.set_cons_succ]
          refine wpAnyH_take (i := 7) (oi := ⟨some 55, _, _, _, _, _⟩) (v := (.bool (true))) rfl (by kernel_rfl) (by kernel_rfl) (by kernel_rfl) (fun _ _ _ h => h) (.inl ⟨by rfl, fun w hw => by dsimp only at hw; go_simp⟩) hHeld ?_
          simp only [Act.put, List.setIfInBounds_toArray, List.set_cons_zero, List.set_cons_succ]
          refine wpAnyH_take (i := 8) (oi := ⟨some 56, _, _, _, _, _⟩) (v := (.slice aoX (cutL 20 4 raw).length capX)) rfl (by kernel_rfl) (by kernel_rfl) (by kernel_rfl) (fun _ _ _ h => h) (.inl ⟨by rfl, fun w hw => by dsimp only at hw; go_simp⟩) hHeld ?_
          simp only [Act.put, List.setIfInBounds_toArray, List.set_cons_zero, List.set_cons_succ]
          refine wpAnyH_take (i := 10) (oi := ⟨some 58, _, _, _, _, _⟩) (v := (.slice aoX (cutL 20 4 raw).length capX)) rfl (by kernel_rfl) (by kernel_rfl) (by kernel_rfl) (fun _ _ _ h => h) (.inl ⟨by rfl, fun w hw => by dsimp only at hw; go_simp⟩) hHeld ?_
          simp only [Act.put, List.setIfInBounds_toArray, List.set_cons_zero, List.set_cons_succ]
          refine wpAnyH_ready (rs := [9]) (by kernel_rfl) (by simp) ?_
          refine AllReadyH.cons (o := ⟨some 57, _, _, _, _, _⟩) rfl (fun K hK => ?_) AllReadyH.nil
          go_simp
          refine (Hp2.out _ HFz1.out).mono ?_
          rintro e Vz2 ⟨rfl, fz2⟩
          have HFz2 := Lib.hid (HFz1.out.trans fz2)
          refine hK.out _ _ ⟨fz2.cell hHeld.1 (fun h => h), fz2.cell hHeld.2.1 (fun h => h), fz2.cell hHeld.2.2.1 (fun h => h), fz2.cell hHeld.2.2.2.1 (fun h => h), fz2.cell hHeld.2.2.2.2 (fun h => h)⟩ (fun hHeld => ?_)
          clear hK K fz2 HFz1
          refine wpAnyH_ready (rs := [11]) (by kernel_rfl) (by simp) ?_
          refine AllReadyH.cons (o := ⟨some 59, _, _, _, _, _⟩) rfl (fun K hK => ?_) AllReadyH.nil
          go_simp
          refine (Hp3.out _ HFz2.out).mono ?_
          rintro e Vz3 ⟨rfl, fz3⟩
          have HFz3 := Lib.hid (HFz2.out.trans fz3)
          refine hK.out _ _ ⟨fz3.cell hHeld.1 (fun h => h), fz3.cell hHeld.2.1 (fun h => h), fz3.cell hHeld.2.2.1 (fun h => h), fz3.cell hHeld.2.2.2.1 (fun h => h), fz3.cell hHeld.2.2.2.2 (fun h => h)⟩ (fun hHeld => ?_)
          clear hK K fz3 HFz2
          refine wpAnyH_take (i := 12) (oi := ⟨some 60, _, _, _, _, _⟩) (v := (.bool (true))) rfl (by kernel_rfl) (by kernel_rfl) (by kernel_rfl) (fun _ _ _ h => h) (.inl ⟨by rfl, fun w hw => by dsimp only at hw; go_simp⟩) hHeld ?_
          simp only [Act.put, List.setIfInBounds_toArray, List.set_cons_zero, List.set_cons_succ]
          refine wpAnyH_take (i := 13) (oi := ⟨some 61, _, _, _, _, _⟩) (v := (.bool (true))) rfl (by kernel_rfl) (by kernel_rfl) (by kernel_rfl) (fun _ _ _ h => h) (.inl ⟨by rfl, fun w hw => by dsimp only at hw; go_simp⟩) hHeld ?_
          simp only [Act.put, List.setIfInBounds_toArray, List.set_cons_zero, List.set_cons_succ]
          refine wpAnyH_take (i := 14) (oi := ⟨some 62, _, _, _, _, _⟩) (v := (.bool (true))) rfl (by kernel_rfl) (by kernel_rfl) (by kernel_rfl) (fun _ _ _ h => h) (.inl ⟨by rfl, fun w hw => by dsimp only at hw; go_simp⟩) hHeld ?_
          simp only [Act.put, List.setIfInBounds_toArray, List.set_cons_zero, List.set_cons_succ]
          refine wpAnyH_take (i := 15) (oi := ⟨some 63, _, _, _, _, _⟩) (v := (v8)) rfl (by kernel_rfl) (by kernel_rfl) (by kernel_rfl) (fun _ _ _ h => h) (.inl ⟨by rfl, fun w hw => by dsimp only at hw; go_simp⟩) hHeld ?_
          simp only [Act.put, List.setIfInBounds_toArray, List.set_cons_zero, List.set_cons_succ]
          refine wpAnyH_take (i := 16) (oi := ⟨some 64, _, _, _, _, _⟩) (v := (.string (S))) rfl (by kernel_rfl) (by kernel_rfl) (by kernel_rfl) (fun _ _ _ h => h) (.inl ⟨by rfl, fun w hw => by dsimp only at hw; go_simp⟩) hHeld ?_
          simp only [Act.put, List.setIfInBounds_toArray, List.set_cons_zero, List.set_cons_succ]
          refine wpAnyH_ready (rs := [17]) (by kernel_rfl) (by simp) ?_
          refine AllReadyH.cons (o := ⟨some 65, _, _, _, _, _⟩) rfl (fun K hK => ?_) AllReadyH.nil
          go_simp
          refine (Hp4.out _ HFz3.out).mono ?_
          rintro e Vz4 ⟨rfl, fz4⟩
          have HFz4 := Lib.hid (HFz3.out.trans fz4)
          refine hK.out _ _ ⟨fz4.cell hHeld.1 (fun h => h), fz4.cell hHeld.2.1 (fun h => h), fz4.cell hHeld.2.2.1 (fun h => h), fz4.cell hHeld.2.2.2.1 (fun h => h), fz4.cell hHeld.2.2.2.2 (fun h => h)⟩ (fun hHeld => ?_)
          clear hK K fz4 HFz3
          refine wpAnyH_take (i := 18) (oi := ⟨some 66, _, _, _, _, _⟩) (v := (.bool (true))) rfl (by kernel_rfl) (by kernel_rfl) (by kernel_rfl) (fun _ _ _ h => h) (.inl ⟨by rfl, fun w hw => by dsimp only at hw; go_simp⟩) hHeld ?_
          simp only [Act.put, List.setIfInBounds_toArray, List.set_cons_zero, List.set_cons_succ]
          refine wpAnyH_take (i := 19) (oi := ⟨some 67, _, _, _, _, _⟩) (v := (.bool (true))) rfl (by kernel_rfl) (by kernel_rfl) (by kernel_rfl) (fun _ _ _ h => h) (.inl ⟨by rfl, fun w hw => by dsimp only at hw; go_simp⟩) hHeld ?_
          simp only [Act.put, List.setIfInBounds_toArray, List.set_cons_zero, List.set_cons_succ]
          refine wpAnyH_take (i := 20) (oi := ⟨some 68, _, _, _, _, _⟩) rfl (by kernel_rfl) (by kernel_rfl) (by kernel_rfl) (fun _ _ _ h => h) (.inr ⟨by rfl, rfl⟩) hHeld ?_
          simp only [Act.put, List.setIfInBounds_toArray, List.set_cons_zero, List.set_cons_succ]
          refine wpAnyH_take (i := 21) (oi := ⟨some 69, _, _, _, _, _⟩) rfl (by kernel_rfl) (by kernel_rfl) (by kernel_rfl) (fun _ _ _ h => h) (.inr ⟨by rfl, rfl⟩) hHeld ?_
          simp only [Act.put, List.setIfInBounds_toArray, List.set_cons_zero, List.set_cons_succ]
          refine wpAnyH_take (i := 22) (oi := ⟨some 70, _, _, _, _, _⟩) rfl (by kernel_rfl) (by kernel_rfl) (by kernel_rfl) (fun _ _ _ h => h) (.inr ⟨by rfl, rfl⟩) hHeld ?_
          simp only [Act.put, List.setIfInBounds_toArray, List.set_cons_zero, List.set_cons_succ]
          refine wpAnyH_take (i := 23) (oi := ⟨some 71, _, _, _, _, _⟩) (v := (.bool (true))) rfl (by kernel_rfl) (by kernel_rfl) (by kernel_rfl) (fun _ _ _ h => h) (.inl ⟨by rfl, fun w hw => by dsimp only at hw; go_simp⟩) hHeld ?_
          simp only [Act.put, List.setIfInBounds_toArray, List.set_cons_zero, List.set_cons_succ]
          refine wpAnyH_take (i := 24) (oi := ⟨some 72, _, _, _, _, _⟩) (v := (.bool (true))) rfl (by kernel_rfl) (by kernel_rfl) (by kernel_rfl) (fun _ _ _ h => h) (.inl ⟨by rfl, fun w hw => by dsimp only at hw; go_simp⟩) hHeld ?_
          simp only [Act.put, List.setIfInBounds_toArray, List.set_cons_zero, List.set_cons_succ]
          refine wpAnyH_take (i := 25) (oi := ⟨some 6, _, _, _, _, _⟩) (v := (.bool (true))) rfl (by kernel_rfl) (by kernel_rfl) (by kernel_rfl) (fun _ _ _ h => h) (.inl ⟨by rfl, fun w hw => by dsimp only at hw; go_simp⟩) hHeld ?_
          simp only [Act.put, List.setIfInBounds_toArray, List.set_cons_zero, List.set_cons_succ]
          refine wpAnyH_done (by kernel_rfl) ?_ _
          have Hfe := Lib.hid HFz4.out
          clear HFz4 hHeld u0 u1 u2 u3 u4
          go_wp2_with fail
          go_ret
          exact ⟨rfl, HF.out.trans (Hf.out.trans Hfe.out)⟩
        · skip
          have hib := Hin.out rfl
          subst hib
          refine wp_region_held_drew (S := fun w' => w'.cell? ⟨A, 0, none⟩ = some (.int .i64 (a.lo)) ∧ w'.cell? ⟨A, 1, none⟩ = some (.int .i64 (a.hi)) ∧ w'.cell? ⟨A, 2, none⟩ = some (.int .i64 (a.cl)) ∧ w'.cell? ⟨A, 3, none⟩ = some (.string (a.bg)) ∧ w'.cell? ⟨A, 4, none⟩ = some (.string (a.en))) (by kernel_rfl) ⟨u0, u1, u2, u3, u4⟩ (fun hHeld => ?_)
          refine wpAnyH_take (i := 0) (oi := ⟨some 48, _, _, _, _, _⟩) (v := (.bool (true))) rfl (by kernel_rfl) (by kernel_rfl) (by kernel_rfl) (fun _ _ _ h => h) (.inl ⟨by rfl, fun w hw => by dsimp only at hw; go_simp⟩) hHeld ?_
          simp only [Act.put, List.setIfInBounds_toArray, List.set_cons_zero, List.set_cons_succ]
          refine wpAnyH_take (i := 1) (oi := ⟨some 49, _, _, _, _, _⟩) (v := (.bool (true))) rfl (by kernel_rfl) (by kernel_rfl) (by kernel_rfl) (fun _ _ _ h => h) (.inl ⟨by rfl, fun w hw => by dsimp only at hw; go_simp⟩) hHeld ?_
          simp only [Act.put, List.setIfInBounds_toArray, List.set_cons_zero, List.set_cons_succ]
          refine wpAnyH_take (i := 2) (oi := ⟨some 50, _, _, _, _, _⟩) (v := (.agg #[.int .i64 (a.lo), .int .i64 (a.hi), .int .i64 (a.cl), .string (a.bg), .string (a.en)])) rfl (by kernel_rfl) (by kernel_rfl) (by kernel_rfl) (fun _ _ _ h => h) (.inl ⟨by rfl, fun w hw => by dsimp only at hw; go_simp⟩) hHeld ?_
          simp only [Act.put, List.setIfInBounds_toArray, List.set_cons_zero, List.set_cons_succ]
          refine wpAnyH_take (i := 3) (oi := ⟨some 51, _, _, _, _, _⟩) (v := (v8)) rfl (by kernel_rfl) (by kernel_rfl) (by kernel_rfl) (fun _ _ _ h => h) (.inl ⟨by rfl, fun w hw => by dsimp only at hw; go_simp⟩) hHeld ?_
          simp only [Act.put, List.setIfInBounds_toArray, List.set_cons_zero, List.set_cons_succ]
          refine wpAnyH_ready (rs := [4]) (by kernel_rfl) (by simp) ?_
          refine AllReadyH.cons (o := ⟨some 52, _, _, _, _, _⟩) rfl (fun K hK => ?_) AllReadyH.nil
          go_simp
          refine (Hp1.out _ HX.out).mono ?_
          rintro e Vz1 ⟨rfl, fz1⟩
          have HFz1 := Lib.hid (HX.out.trans fz1)
          refine hK.out _ _ ⟨fz1.cell hHeld.1 (fun h => h), fz1.cell hHeld.2.1 (fun h => h), fz1.cell hHeld.2.2.1 (fun h => h), fz1.cell hHeld.2.2.2.1 (fun h => h), fz1.cell hHeld.2.2.2.2 (fun h => h)⟩ (fun hHeld => ?_)
          clear hK K fz1 HX
          refine wpAnyH_take (i := 5) (oi := ⟨some 53, _, _, _, _, _⟩) (v := (.bool (true))) rfl (by kernel_rfl) (by kernel_rfl) (by kernel_rfl) (fun _ _ _ h => h) (.inl ⟨by rfl, fun w hw => by dsimp only at hw; go_simp⟩) hHeld ?_
          simp only [Act.put, List.setIfInBounds_toArray, List.set_cons_zero, List.set_cons_succ]
          refine wpAnyH_take (i := 6) (oi := ⟨some 54, _, _, _, _, _⟩) (v := (.bool (true))) rfl (by kernel_rfl) (by kernel_rfl) (by kernel_rfl) (fun _ _ _ h => h) (.inl ⟨by rfl, fun w hw => by dsimp only at hw; go_simp⟩) hHeld ?_
          simp only [Act.put, List.setIfInBounds_toArray, List.set_cons_zero, List.set_cons_succ]
          refine wpAnyH_take (i := 7) (oi := ⟨some 55, _, _, _, _, _⟩) (v := (.bool (true))) rfl (by kernel_rfl) (by kernel_rfl) (by kernel_rfl) (fun _ _ _ h => h) (.inl ⟨by rfl, fun w hw => by dsimp only at hw; go_simp⟩) hHeld ?_
          simp only [Act.put, List.setIfInBounds_toArray, List.set_cons_zero, List.set_cons_succ]
          refine wpAnyH_take (i := 8) (oi := ⟨some 56, _, _, _, _, _⟩) (v := (.slice aoX (cutL 20 4 raw).length capX)) rfl (by kernel_rfl) (by kernel_rfl) (by kernel_rfl) (fun _ _ _ h => h) (.inl ⟨by rfl, fun w hw => by dsimp only at hw; go_simp⟩) hHeld ?_
          simp only [Act.put, List.setIfInBounds_toArray, List.set_cons_zero, List.set_cons_succ]
          refine wpAnyH_take (i := 10) (oi := ⟨some 58, _, _, _, _, _⟩) (v := (.slice aoX (cutL 20 4 raw).length capX)) rfl (by kernel_rfl) (by kernel_rfl) (by kernel_rfl) (fun _ _ _ h => h) (.inl ⟨by rfl, fun w hw => by dsimp only at hw; go_simp⟩) hHeld ?_
          simp only [Act.put, List.setIfInBounds_toArray, List.set_cons_zero, List.set_cons_succ]
          refine wpAnyH_ready (rs := [9]) (by kernel_rfl) (by simp) ?_
          refine AllReadyH.cons (o := ⟨some 57, _, _, _, _, _⟩) rfl (fun K hK => ?_) AllReadyH.nil
          go_simp
          refine (Hp2.out _ HFz1.out).mono ?_
          rintro e Vz2 ⟨rfl, fz2⟩
          have HFz2 := Lib.hid (HFz1.out.trans fz2)
          refine hK.out _ _ ⟨fz2.cell hHeld.1 (fun h => h), fz2.cell hHeld.2.1 (fun h => h), fz2.cell hHeld.2.2.1 (fun h => h), fz2.cell hHeld.2.2.2.1 (fun h => h), fz2.cell hHeld.2.2.2.2 (fun h => h)⟩ (fun hHeld => ?_)
          clear hK K fz2 HFz1
          refine wpAnyH_ready (rs := [11]) (by kernel_rfl) (by simp) ?_
          refine AllReadyH.cons (o := ⟨some 59, _, _, _, _, _⟩) rfl (fun K hK => ?_) AllReadyH.nil
          go_simp
          refine (Hp3.out _ HFz2.out).mono ?_
          rintro e Vz3 ⟨rfl, fz3⟩
          have HFz3 := Lib.hid (HFz2.out.trans fz3)
          refine hK.out _ _ ⟨fz3.cell hHeld.1 (fun h => h), fz3.cell hHeld.2.1 (fun h => h), fz3.cell hHeld.2.2.1 (fun h => h), fz3.cell hHeld.2.2.2.1 (fun h => h), fz3.cell hHeld.2.2.2.2 (fun h => h)⟩ (fun hHeld => ?_)
          clear hK K fz3 HFz2
          refine wpAnyH_take (i := 12) (oi := ⟨some 60, _, _, _, _, _⟩) (v := (.bool (true))) rfl (by kernel_rfl) (by kernel_rfl) (by kernel_rfl) (fun _ _ _ h => h) (.inl ⟨by rfl, fun w hw => by dsimp only at hw; go_simp⟩) hHeld ?_
          simp only [Act.put, List.setIfInBounds_toArray, List.set_cons_zero, List.set_cons_succ]
          refine wpAnyH_take (i := 13) (oi := ⟨some 61, _, _, _, _, _⟩) (v := (.bool (true))) rfl (by kernel_rfl) (by kernel_rfl) (by kernel_rfl) (fun _ _ _ h => h) (.inl ⟨by rfl, fun w hw => by dsimp only at hw; go_simp⟩) hHeld ?_
          simp only [Act.put, List.setIfInBounds_toArray, List.set_cons_zero, List.set_cons_succ]
          refine wpAnyH_take (i := 14) (oi := ⟨some 62, _, _, _, _, _⟩) (v := (.bool (true))) rfl (by kernel_rfl) (by kernel_rfl) (by kernel_rfl) (fun _ _ _ h => h) (.inl ⟨by rfl, fun w hw => by dsimp only at hw; go_simp⟩) hHeld ?_
          simp only [Act.put, List.setIfInBounds_toArray, List.set_cons_zero, List.set_cons_succ]
          refine wpAnyH_take (i := 15) (oi := ⟨some 63, _, _, _, _, _⟩) (v := (v8)) rfl (by kernel_rfl) (by kernel_rfl) (by kernel_rfl) (fun _ _ _ h => h) (.inl ⟨by rfl, fun w hw => by dsimp only at hw; go_simp⟩) hHeld ?_
          simp only [Act.put, List.setIfInBounds_toArray, List.set_cons_zero, List.set_cons_succ]
          refine wpAnyH_take (i := 16) (oi := ⟨some 64, _, _, _, _, _⟩) (v := (.string (S))) rfl (by kernel_rfl) (by kernel_rfl) (by kernel_rfl) (fun _ _ _ h => h) (.inl ⟨by rfl, fun w hw => by dsimp only at hw; go_simp⟩) hHeld ?_
          simp only [Act.put, List.setIfInBounds_toArray, List.set_cons_zero, List.set_cons_succ]
          refine wpAnyH_ready (rs := [17]) (by kernel_rfl) (by simp) ?_
          refine AllReadyH.cons (o := ⟨some 65, _, _, _, _, _⟩) rfl (fun K hK => ?_) AllReadyH.nil
          go_simp
          refine (Hp4.out _ HFz3.out).mono ?_
          rintro e Vz4 ⟨rfl, fz4⟩
          have HFz4 := Lib.hid (HFz3.out.trans fz4)
          refine hK.out _ _ ⟨fz4.cell hHeld.1 (fun h => h), fz4.cell hHeld.2.1 (fun h => h), fz4.cell hHeld.2.2.1 (fun h => h), fz4.cell hHeld.2.2.2.1 (fun h => h), fz4.cell hHeld.2.2.2.2 (fun h => h)⟩ (fun hHeld => ?_)
          clear hK K fz4 HFz3
          refine wpAnyH_take (i := 18) (oi := ⟨some 66, _, _, _, _, _⟩) (v := (.bool (false))) rfl (by kernel_rfl) (by kernel_rfl) (by kernel_rfl) (fun _ _ _ h => h) (.inl ⟨by rfl, fun w hw => by dsimp only at hw; go_simp⟩) hHeld ?_
          simp only [Act.put, List.setIfInBounds_toArray, List.set_cons_zero, List.set_cons_succ]
          refine wpAnyH_take (i := 19) (oi := ⟨some 67, _, _, _, _, _⟩) (v := (.bool (false))) rfl (by kernel_rfl) (by kernel_rfl) (by kernel_rfl) (fun _ _ _ h => h) (.inl ⟨by rfl, fun w hw => by dsimp only at hw; go_simp⟩) hHeld ?_
          simp only [Act.put, List.setIfInBounds_toArray, List.set_cons_zero, List.set_cons_succ]
          refine wpAnyH_take (i := 20) (oi := ⟨some 68, _, _, _, _, _⟩) (v := (.agg #[.int .i64 (a.lo), .int .i64 (a.hi), .int .i64 (a.cl), .string (a.bg), .string (a.en)])) rfl (by kernel_rfl) (by kernel_rfl) (by kernel_rfl) (fun _ _ _ h => h) (.inl ⟨by rfl, fun w hw => by dsimp only at hw; go_simp⟩) hHeld ?_
          simp only [Act.put, List.setIfInBounds_toArray, List.set_cons_zero, List.set_cons_succ]
          refine wpAnyH_take (i := 21) (oi := ⟨some 69, _, _, _, _, _⟩) (v := (.string (S))) rfl (by kernel_rfl) (by kernel_rfl) (by kernel_rfl) (fun _ _ _ h => h) (.inl ⟨by rfl, fun w hw => by dsimp only at hw; go_simp⟩) hHeld ?_
          simp only [Act.put, List.setIfInBounds_toArray, List.set_cons_zero, List.set_cons_succ]
          refine wpAnyH_ready (rs := [22]) (by kernel_rfl) (by simp) ?_
          refine AllReadyH.cons (o := ⟨some 70, _, _, _, _, _⟩) rfl (fun K hK => ?_) AllReadyH.nil
          go_simp
          refine (Hcon.out _).mono ?_
          rintro e Vz5 ⟨rfl, fz5⟩
          have HFz5 := Lib.hid (HFz4.out.trans fz5)
          refine hK.out _ _ ⟨fz5.cell hHeld.1 (fun h => h), fz5.cell hHeld.2.1 (fun h => h), fz5.cell hHeld.2.2.1 (fun h => h), fz5.cell hHeld.2.2.2.1 (fun h => h), fz5.cell hHeld.2.2.2.2 (fun h => h)⟩ (fun hHeld => ?_)
          clear hK K fz5 HFz4
          refine wpAnyH_take (i := 23) (oi := ⟨some 71, _, _, _, _, _⟩) (v := (.bool (true))) rfl (by kernel_rfl) (by kernel_rfl) (by kernel_rfl) (fun _ _ _ h => h) (.inl ⟨by rfl, fun w hw => by dsimp only at hw; go_simp⟩) hHeld ?_
          simp only [Act.put, List.setIfInBounds_toArray, List.set_cons_zero, List.set_cons_succ]
          refine wpAnyH_take (i := 24) (oi := ⟨some 72, _, _, _, _, _⟩) (v := (.bool (true))) rfl (by kernel_rfl) (by kernel_rfl) (by kernel_rfl) (fun _ _ _ h => h) (.inl ⟨by rfl, fun w hw => by dsimp only at hw; go_simp⟩) hHeld ?_
          simp only [Act.put, List.setIfInBounds_toArray, List.set_cons_zero, List.set_cons_succ]
          refine wpAnyH_take (i := 25) (oi := ⟨some 6, _, _, _, _, _⟩) (v := (.bool (true))) rfl (by kernel_rfl) (by kernel_rfl) (by kernel_rfl) (fun _ _ _ h => h) (.inl ⟨by rfl, fun w hw => by dsimp only at hw; go_simp⟩) hHeld ?_
          simp only [Act.put, List.setIfInBounds_toArray, List.set_cons_zero, List.set_cons_succ]
          refine wpAnyH_done (by kernel_rfl) ?_ _
          have Hfe := Lib.hid HFz5.out
          clear HFz5 hHeld u0 u1 u2 u3 u4
          go_wp2_with fail
          go_ret
          exact ⟨rfl, HF.out.trans (Hf.out.trans Hfe.out)⟩
end Go.Proofs.YtgnjakaamgeibaaDoor
