/-
  PatternSound: the law returns true. Conditions: the laid tables; the arguments lie in memory.
-/
import Derived.Test.YtgnjakaamgeibaaDoorSmp
import Derived.Test.YtgnjakaamgeibaaDoorSan5
import Derived.Test.YtgnjakaamgeibaaDoorSme
import Derived.Test.YtgnjakaamgeibaaDoorMch
import Derived.Test.YtgnjakaamgeibaaDoorCov2
import Derived.Test.YtgnjakaamgeibaaDoorWid
import Derived.Deep.CutRange
namespace Go.Proofs.YtgnjakaamgeibaaDoor
open Go.RowKit Go.Shelf
attribute [local go_sem] Oper.semAt_some

theorem emp_two {s : ByteArray} (h : s.data.toList = []) : (s.toList == []) = true ∧ s.toList.isEmpty = true := by
  obtain ⟨a, b⟩ := emp_str s
  rw [a, b, h]
  exact ⟨rfl, rfl⟩
theorem full_two {s : ByteArray} (h : s.data.toList ≠ []) : (s.toList == []) = false ∧ s.toList.isEmpty = false := by
  obtain ⟨a, b⟩ := emp_str s
  rw [a, b]
  cases hh : s.data.toList with
  | nil => exact absurd hh h
  | cons x l => exact ⟨rfl, rfl⟩
theorem printed_two {ps : List Pc} (h : printL ps ≠ []) : rightB ps = true := by
  unfold printL at h
  split at h
  · assumption
  · exact absurd rfl h
/-- Bytes that came in. -/
def BysAt (w : World) (ao : Option Addr) (q : List Int) : Prop := ∀ i, i < q.length → ∃ b o, ao = some ⟨b, o, none⟩ ∧ w.cell? ⟨b, o + i, none⟩ = some (.int .u8 (q.getD i 0)) ∧ 0 ≤ q.getD i 0 ∧ q.getD i 0 ≤ 255
theorem BysAt.still {w w' : World} {ao : Option Addr} {q : List Int} (h : BysAt w ao q) (hf : Frm (fun _ => False) w w') : BysAt w' ao q := by
  intro i hi
  obtain ⟨b, o, hb, hc, hr⟩ := h i hi
  exact ⟨b, o, hb, hf.cell hc (fun h => h), hr⟩
def kAt (q : List Int) (i : Nat) : Int := if q.length = 0 then 0 else (q.getD (i % q.length) 0) % 3
theorem kAt_rng (q : List Int) (i : Nat) : 0 ≤ kAt q i ∧ kAt q i ≤ 2 := by
  unfold kAt
  split
  · omega
  · omega
/-- A sample, as a string. -/
theorem sample_g {v : Value} {ps : List Pc} {ao : Option Addr} {n cap : Nat} {l : List Int} (w : World) (hP : Pcs w v ps) (hok : MdOk 5 ps) (hI : IntsAt w ao l) (hn : l.length = n) (hb : n ≤ maxLen) :
    Calls Tryd.prog 40 #[v, .slice ao n cap] w fun e w' => ∃ S : ByteArray, e = .returned (.string S) ∧ S.size ≤ 1000 ∧ Frm (fun _ => False) w w' := by
  refine (sample_any w hP (fun p hp => (hok.pc p hp).1) (fun p hp => by have := (hok.pc p hp).2; omega) hok.len hI hn hb).mono ?_
  rintro e w' ⟨rfl, hl, f⟩
  exact ⟨⟨(smpL ps l).toArray⟩, rfl, by show (smpL ps l).toArray.size ≤ 1000; rw [List.size_toArray]; exact hl, f⟩

set_option maxRecDepth 100000 in
set_option maxHeartbeats 8000000 in
theorem law_sound {ao ao1 ao2 ao3 : Option Addr} {n cap n1 cap1 n2 cap2 n3 cap3 : Nat} {l l1 l2 q3 : List Int} (w : World) (hT : Tabs w) (hI : IntsAt w ao l) (hn : l.length = n) (hb : n ≤ maxLen) (hI1 : IntsAt w ao1 l1) (hn1 : l1.length = n1) (hb1 : n1 ≤ maxLen) (hI2 : IntsAt w ao2 l2) (hn2 : l2.length = n2) (hb2 : n2 ≤ maxLen) (hB : BysAt w ao3 q3) (hn3 : q3.length = n3) (hb3 : n3 ≤ maxLen) :
    Calls Tryd.prog 11 #[.agg #[.slice ao n cap, .slice ao1 n1 cap1], .slice ao2 n2 cap2, .slice ao3 n3 cap3] w fun e w' => e = .returned (.bool true) ∧ Frm (fun _ => False) w w' := by
  subst hn3
  have hq3 : q3.length ≤ 9223372036854775807 := by unfold maxLen at hb3; omega
  have HT := Lib.hid hT
  have HI := Lib.hid hI
  have HI1 := Lib.hid hI1
  have HI2 := Lib.hid hI2
  have HB := Lib.hid hB
  have Hn := Lib.hid hn
  have Hn1 := Lib.hid hn1
  have Hn2 := Lib.hid hn2
  clear hT hI hI1 hI2 hB hn hn1 hn2 hb3
  have hN := heap_alloc_new w (.cells #[.slice ao n cap, .slice ao1 n1 cap1] 58)
  have hF0 := (Frm.refl (fun _ => False) w).alloc (.cells #[.slice ao n cap, .slice ao1 n1 cap1] 58)
  go_enter Tryd.func11, Tryd.ntmps11
  go_wp2_with fail
  obtain ⟨W1, hW1⟩ : ∃ W, W = w.alloc (.cells #[.slice ao n cap, .slice ao1 n1 cap1] 58) := ⟨_, rfl⟩
  obtain ⟨xb, hxb⟩ : ∃ b, b = w.heap.size := ⟨_, rfl⟩
  rw [← hW1, ← hxb] at hN
  rw [← hW1] at hF0
  rw [← hW1, ← hxb]
  clear hW1 hxb
  have F0 := Lib.hid hF0
  clear hF0
  refine (sanity5_any W1 (HT.out.frm F0.out)).mono ?_
  rintro e w1 ⟨rfl, f1⟩
  have hN1 := f1.heap hN (fun h => h)
  have F1 := Lib.hid (F0.out.trans f1)
  have a0 : w1.cell? ⟨xb, 0, none⟩ = some (.slice ao n cap) := by rw [cell_of_row w1 xb _ _ _ _ hN1]; rfl
  have a1 : w1.cell? ⟨xb, 1, none⟩ = some (.slice ao1 n1 cap1) := by rw [cell_of_row w1 xb _ _ _ _ hN1]; rfl
  clear f1 hN hN1
  go_wp2_with fail
  refine (made_any w1 (HI.out.still F1.out) Hn.out hb).mono ?_
  rintro e w2 ⟨v6, rfl, hP6, f2⟩
  obtain ⟨hsp, hlp⟩ := md_small (made_ok l) (Nat.le_refl _)
  generalize madeL l = ps at *
  have a1 := f2.cell a1 (fun h => h)
  have F2 := Lib.hid (F1.out.trans f2)
  have HP6' := Lib.hid hP6
  clear f2 hP6 a0
  go_wp2_with fail
  refine (made_any w2 (HI1.out.still F2.out) Hn1.out hb1).mono ?_
  rintro e w3 ⟨v7, rfl, hP7, f3⟩
  have hokq := made_ok l1
  obtain ⟨hsq, hlq⟩ := md_small hokq (Nat.le_refl _)
  generalize madeL l1 = qs at *
  have HF3 := Lib.hid (F2.out.trans f3)
  have HPp := Lib.hid (HP6'.out.still f3)
  have HPq := Lib.hid hP7
  clear f3 hP7 HP6' a1
  have hsm := sample_g (cap := cap2) w3 HPq.out hokq (HI2.out.still HF3.out) Hn2.out hb2
  have Hsm := Lib.hid hsm
  have Hok := Lib.hid hokq.pc
  clear hsm hokq
  go_wp2_with fail
  refine Hsm.out.mono ?_
  rintro e1 w4 ⟨S, rfl, hSz, f⟩
  have HF := Lib.hid (HF3.out.trans f)
  have HPp := Lib.hid (HPp.out.still f)
  have HPq := Lib.hid (HPq.out.still f)
  clear f Hsm HF3
  go_upto_region 5 with fail
  go_cut [37] from 24 (fun sx wx => sx = .bool false ∧ Frm (fun _ => False) w4 wx)
  case first =>
    go_wp2_with fail
    refine (covers_any w4 HPp.out HPq.out hsp hsq hlp hlq (HT.out.frm HF.out)).mono ?_
    rintro e u1 ⟨rfl, f⟩
    have Hf := Lib.hid f
    clear f
    cases hc : coversB ps qs
    · go_wp2_with fail
      go_meet
      case rel => exact ⟨rfl, Hf.out⟩
    · have Hc := Lib.hid hc
      clear hc
      go_wp2_with fail
      refine (matches_any u1 S (by omega) (HPq.out.still Hf.out) hsq hlq (HT.out.frm (HF.out.trans Hf.out))).mono ?_
      rintro e u2 ⟨rfl, f⟩
      have Hf := Lib.hid (Hf.out.trans f)
      clear f
      cases hm : matchB qs S.data.toList
      · go_wp2_with fail
        go_meet
        case rel => exact ⟨rfl, Hf.out⟩
      · have hmp := covers_sound Hc.out hm
        have Hmp := Lib.hid hmp
        clear hmp hm
        go_wp2_with fail
        refine (matches_any u2 S (by omega) (HPp.out.still Hf.out) hsp hlp (HT.out.frm (HF.out.trans Hf.out))).mono ?_
        rw [Hmp.out]
        rintro e u3 ⟨rfl, f⟩
        have Hf := Lib.hid (Hf.out.trans f)
        clear f
        go_wp2_with fail
        go_meet
        case rel => exact ⟨rfl, Hf.out⟩
  case rest =>
    obtain ⟨rfl, hf⟩ := hcut
    have HF := Lib.hid (HF.out.trans hf)
    have HPq := Lib.hid (HPq.out.still hf)
    clear hf HPp
    generalize wc = wz at *
    go_upto_region 7 with fail
    have hB0 := heap_alloc_new wz (.cells #[] 53)
    have fB := (Frm.refl (fun _ => False) wz).alloc (.cells #[] 53)
    have hPB := HPq.out.still fB
    have HPB := Lib.hid hPB
    clear hPB
    go_wp2_with (at_builtin; refine wpList_copy_pieces rfl _ _ rfl (v := v7) (b := wz.heap.size) rfl rfl HPB.out hB0 hlq ?_)
    intro g cap11 w6 hP11 hf6 hg6
    have hf7 : Frm (fun _ => False) wz w6 := fB.trans' hf6 fun k hk => .inr (by rw [hk]; exact Nat.le_refl _)
    have hgn : wz.heap.size ≤ g := by
      rcases hg6 with h | h
      · omega
      · rw [← World.size_alloc] at h
        exact Nat.le_trans fB.size h
    rw [← widN_zero (kAt q3) qs] at hP11
    have H11 : Hid (Pcs w6 (.slice (some ⟨g, 0, none⟩) qs.length cap11) (widN (kAt q3) qs 0)) := Lib.hid (by rw [widN_zero] at hP11 ⊢; exact hP11)
    have H7 := Lib.hid hf7
    clear hP11 hf7 hf6 hg6 hB0 fB HPB
    go_wp2_with fail
    go_loopw [12] (fun si wr => ∃ i : Nat, si = .int .i64 i ∧ i ≤ qs.length ∧ Hid (Pcs wr (.slice (some ⟨g, 0, none⟩) qs.length cap11) (widN (kAt q3) qs i)) ∧ Hid (Frm (fun _ => False) wz wr)) (fun si _ => qs.length - (intOf si).toNat)
    case atStart => exact ⟨0, rfl, Nat.zero_le _, H11, H7⟩
    case round =>
      clear H11 H7
      obtain ⟨i, rfl, hi, hP, hf⟩ := hrel
      by_cases hlt : i < qs.length
      · have hlt' : (i : Int) < (qs.length : Int) := by omega
        have hLl : i < (widN (kAt q3) qs i).length := by rw [widN_len _ _ hi]; exact hlt
        have hP0 := hP.out
        rw [← wid_open hlt] at hP0
        have hsc := widN_succ (f := kAt q3) hlt
        have hpc := (Hok.out _ (List.getElem_mem hlt)).1
        obtain ⟨L2, hL2⟩ : ∃ L2, widN (kAt q3) qs (i + 1) = L2 := ⟨_, rfl⟩
        rw [hL2] at hsc
        have HL2 := Lib.hid hL2
        clear hL2 hP
        generalize widN (kAt q3) qs i = L at *
        generalize qs[i] = p at *
        obtain ⟨⟨c0, c1, c2, c3⟩, hz⟩ := hP0.cells_set hLl
        by_cases hc : p.cls = 0
        · have hw0 : widP (kAt q3 i) p = p := by unfold widP; rw [if_pos hc]
          rw [hw0] at hsc
          rw [← hsc] at hP0
          have HP2 := Lib.hid hP0
          rw [hc] at c0
          clear hP0 hsc hw0 hpc c1 c2 c3
          go_wp2_with fail
          go_roundw
          case rel => exact ⟨i + 1, by go_num, hlt, by rw [HL2.out]; exact HP2, hf⟩
          case measure => simp [intOf]; omega
        · have hcb : (p.cls == 0) = false := by rw [beq_eq_false_iff_ne]; exact hc
          have hpw : widP (kAt q3 i) p = ⟨if 0 < kAt q3 i then 7 else p.cls, max (p.lo - kAt q3 i) 0, min (p.hi + kAt q3 i) 200, p.txt⟩ := by unfold widP; rw [if_neg hc]
          unfold pieceB at hpc
          rw [if_neg hc] at hpc
          simp only [Bool.and_eq_true, decide_eq_true_eq] at hpc
          obtain ⟨⟨⟨⟨⟨⟨h1, h2⟩, h3⟩, h4⟩, h5⟩, h6⟩, h7⟩ := hpc
          obtain ⟨k0, k2⟩ := kAt_rng q3 i
          have hkq := Lib.hid (rfl : kAt q3 i = kAt q3 i)
          have Hpw := Lib.hid hpw
          have Hsc := Lib.hid hsc
          have HP0 := Lib.hid hP0
          clear hpw hsc hP0 h3 hc
          obtain ⟨pc, pl, ph, pt⟩ := p
          simp only at h1 h2 h4 h5 h6 h7 hcb c0 c1 c2 c3
          go_upto_if 55 with fail
          go_cut [13] from 41 to 94 (fun sx wx => sx = .int .i64 (kAt q3 i) ∧ wx = wr)
          case first =>
            by_cases hq0 : q3.length = 0
            · have hq1 : ¬ ((0 : Int) < (q3.length : Int)) := by omega
              have hk0 : kAt q3 i = 0 := by unfold kAt; rw [if_pos hq0]
              have Hk0 := Lib.hid hk0
              clear hk0 hq0
              go_wp2_with fail
              go_meet
              case rel => exact ⟨by rw [Hk0.out], rfl⟩
            · have hq1 : (0 : Int) < (q3.length : Int) := by omega
              have hk0 : kAt q3 i = (q3.getD (i % q3.length) 0) % 3 := by unfold kAt; rw [if_neg hq0]
              have hml : i % q3.length < q3.length := Nat.mod_lt _ (by omega)
              have htm : (i : Int).tmod (q3.length : Int) = ((i % q3.length : Nat) : Int) := by rw [Int.tmod_eq_emod_of_nonneg (by omega)]; rfl
              obtain ⟨b3, o3, hao, d0, x0, x255⟩ := HB.out _ hml
              subst hao
              have d0 := (HF.out.trans hf.out).cell d0 (fun h => h)
              generalize q3.getD (i % q3.length) 0 = x at *
              generalize i % q3.length = j at *
              have hxm : x.tmod 3 = x % 3 := Int.tmod_eq_emod_of_nonneg x0
              have hx3 : x % 3 ≤ 2 := by omega
              have hx4 : 0 ≤ x % 3 := by omega
              have Hk0 := Lib.hid hk0
              clear hk0
              go_wp2_with fail
              go_meet
              case rel => exact ⟨by rw [Hk0.out], rfl⟩
          case rest =>
            obtain ⟨rfl, rfl⟩ := hcut
            have hs1 := HP0.out.store_set (j := 1) (u := .int .i64 (max (pl - kAt q3 i) 0)) (p' := ⟨pc, max (pl - kAt q3 i) 0, ph, pt⟩) hLl (by decide) rfl
            generalize kAt q3 i = k at *
            have hg1 := hf.out.setCell (p := ⟨g, i * 4 + 1, none⟩) (.inr hgn) (.int .i64 (max (pl - k) 0))
            have z1 := hz (i * 4 + 1)
            clear HP0 hf
            go_upto_region 16 with fail
            generalize wc.setCell ⟨g, i * 4 + 1, none⟩ (.int .i64 (max (pl - k) 0)) = W1 at *
            generalize max (pl - k) 0 = lo' at *
            clear z1 hz c0 c1 c2 c3
            obtain ⟨⟨c0, c1, c2, c3⟩, hz⟩ := hs1.cells_set hLl
            have z2 := hz (i * 4 + 2)
            have hs2 := hs1.store_set (j := 2) (u := .int .i64 (min (ph + k) 200)) (p' := ⟨pc, lo', min (ph + k) 200, pt⟩) hLl (by decide) rfl
            have hg2 := hg1.setCell (p := ⟨g, i * 4 + 2, none⟩) (.inr hgn) (.int .i64 (min (ph + k) 200))
            clear hs1 hg1
            go_upto_region 17 with fail
            generalize W1.setCell ⟨g, i * 4 + 2, none⟩ (.int .i64 (min (ph + k) 200)) = W2 at *
            generalize min (ph + k) 200 = hi' at *
            clear z2 hz c0 c1 c2 c3
            by_cases hk : 0 < k
            · obtain ⟨⟨c0, -⟩, hz⟩ := hs2.cells_set hLl
              have z0 := hz (i * 4)
              have hs3 := hs2.store_set (j := 0) (u := .int .i64 7) (p' := ⟨7, lo', hi', pt⟩) hLl (by decide) rfl
              have hg3 := hg2.setCell (p := ⟨g, i * 4, none⟩) (.inr hgn) (.int .i64 7)
              rw [Nat.add_zero] at hs3
              have hsc := Hsc.out
              rw [Hpw.out, if_pos hk] at hsc
              rw [← hsc] at hs3
              have HP2 := Lib.hid hs3
              have Hf := Lib.hid hg3
              clear hs2 hg2 hs3 hg3 hsc
              go_wp2_with fail
              go_roundw
              case rel => exact ⟨i + 1, by go_num, hlt, by rw [HL2.out]; exact HP2, Hf⟩
              case measure => simp [intOf]; omega
            · have hsc := Hsc.out
              rw [Hpw.out, if_neg hk] at hsc
              rw [← hsc] at hs2
              have HP2 := Lib.hid hs2
              have Hf := Lib.hid hg2
              clear hs2 hg2 hsc
              go_wp2_with fail
              go_roundw
              case rel => exact ⟨i + 1, by go_num, hlt, by rw [HL2.out]; exact HP2, Hf⟩
              case measure => simp [intOf]; omega
      · obtain rfl : i = qs.length := by omega
        have hP2 := hP.out
        rw [widN_all] at hP2
        have hrw : rightB (widF (kAt q3) 0 qs) = true → rightB qs = true → coversB (widF (kAt q3) 0 qs) qs = true := fun h1 h2 => wid_covers (fun j => (kAt_rng q3 j).1) h2 h1
        have hsw := wid_small (f := kAt q3) hsq
        have hlw : (widF (kAt q3) 0 qs).length ≤ 1000 := by rw [widF_len]; exact hlq
        generalize widF (kAt q3) 0 qs = ws at *
        have HW := Lib.hid hP2
        have Hrw := Lib.hid hrw
        have HF := Lib.hid (HF.out.trans hf.out)
        have HPq := Lib.hid (HPq.out.still hf.out)
        clear hP hP2 hrw hf
        go_wp2_with fail
        refine (print_any wr HW.out hsw hlw (HT.out.frm HF.out)).mono ?_
        rintro e u1 ⟨rfl, f⟩
        unfold strV
        obtain ⟨ys, hys⟩ : ∃ ys : ByteArray, (⟨(printL ws).toArray⟩ : ByteArray) = ys := ⟨_, rfl⟩
        rw [hys]
        have hyl : ys.data.toList = printL ws := by rw [← hys]
        have HF := Lib.hid (HF.out.trans f)
        have HPq := Lib.hid (HPq.out.still f)
        have HW := Lib.hid (HW.out.still f)
        clear f hys
        by_cases hpe : printL ws = []
        · obtain ⟨e1, e2⟩ := emp_two (hyl.trans hpe)
          clear hyl hpe
          go_wp2_with fail
          go_ret
          exact ⟨rfl, HF.out⟩
        · obtain ⟨e1, e2⟩ := full_two (by rw [hyl]; exact hpe)
          have hr1 := Lib.hid (printed_two hpe)
          clear hyl hpe
          go_wp2_with fail
          refine (print_any u1 HPq.out hsq hlq (HT.out.frm HF.out)).mono ?_
          rintro e u2 ⟨rfl, f⟩
          unfold strV
          obtain ⟨zs, hzs⟩ : ∃ zs : ByteArray, (⟨(printL qs).toArray⟩ : ByteArray) = zs := ⟨_, rfl⟩
          rw [hzs]
          have hzl : zs.data.toList = printL qs := by rw [← hzs]
          have HF := Lib.hid (HF.out.trans f)
          have HPq := Lib.hid (HPq.out.still f)
          have HW := Lib.hid (HW.out.still f)
          clear f hzs e1 e2
          by_cases hpe : printL qs = []
          · obtain ⟨e1, e2⟩ := emp_two (hzl.trans hpe)
            clear hzl hpe
            go_wp2_with fail
            go_ret
            exact ⟨rfl, HF.out⟩
          · obtain ⟨e1, e2⟩ := full_two (by rw [hzl]; exact hpe)
            have Hc := Lib.hid (Hrw.out hr1.out (printed_two hpe))
            clear hzl hpe
            go_wp2_with fail
            refine (covers_any u2 HW.out HPq.out hsw hsq hlw hlq (HT.out.frm HF.out)).mono ?_
            rw [Hc.out]
            rintro e u3 ⟨rfl, f⟩
            have HF := Lib.hid (HF.out.trans f)
            have HPq := Lib.hid (HPq.out.still f)
            have HW := Lib.hid (HW.out.still f)
            clear f e1 e2
            go_wp2_with fail
            refine (matches_any u3 S (by omega) HPq.out hsq hlq (HT.out.frm HF.out)).mono ?_
            rintro e u4 ⟨rfl, f⟩
            have HF := Lib.hid (HF.out.trans f)
            have HW := Lib.hid (HW.out.still f)
            clear f
            cases hm : matchB qs S.data.toList
            · go_wp2_with fail
              go_ret
              exact ⟨rfl, HF.out⟩
            · have Hmw := Lib.hid (covers_sound Hc.out hm)
              clear hm
              go_wp2_with fail
              refine (matches_any u4 S (by omega) HW.out hsw hlw (HT.out.frm HF.out)).mono ?_
              rw [Hmw.out]
              rintro e u5 ⟨rfl, f⟩
              have HF := Lib.hid (HF.out.trans f)
              clear f
              go_wp2_with fail
              go_ret
              exact ⟨rfl, HF.out⟩
end Go.Proofs.YtgnjakaamgeibaaDoor
