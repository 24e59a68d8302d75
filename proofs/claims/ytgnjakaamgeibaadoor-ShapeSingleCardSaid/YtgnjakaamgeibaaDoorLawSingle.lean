/-
  ShapeSingle: the law returns true. Conditions: the laid table; the case lies in memory.
-/
import Derived.Test.YtgnjakaamgeibaaDoorShZ
import Derived.Test.YtgnjakaamgeibaaDoorShS
namespace Go.Proofs.YtgnjakaamgeibaaDoor
open Go.RowKit Go.Shelf
attribute [local go_sem] Oper.semAt_some

set_option maxRecDepth 100000 in
set_option maxHeartbeats 8000000 in
theorem law_single {ao ao1 : Option Addr} {n cap n1 cap1 : Nat} {l h c : Int} {b d t : ByteArray} (other : ByteArray) (w : World) (hT : Tabs w) (hC : CaseAt w ao ao1 n n1 l h c b d t) (ho : other.size ≤ 9223372036854775807) :
    Calls Tryd.prog 4 #[.agg #[.slice ao n cap, .slice ao1 n1 cap1, .int .i64 l, .int .i64 h, .int .i64 c, .string b, .string d, .string t], .string other] w fun e w' => e = .returned (.bool true) ∧ Frm (fun _ => False) w w' := by
  have htx := hC.tx
  have HT := Lib.hid hT
  have HC := Lib.hid hC
  clear hT hC
  have e1 : min (t.size : Int) 30 = ((min t.size 30 : Nat) : Int) := by omega
  have e2 : min (other.size : Int) 30 = ((min other.size 30 : Nat) : Int) := by omega
  have z1 : (t.extract 0 (min t.size 30)).size ≤ 30 := by rw [ByteArray.size_extract]; omega
  have z2 : (other.extract 0 (min other.size 30)).size ≤ 30 := by rw [ByteArray.size_extract]; omega
  have hs1 := extc t (min t.size 30) (by omega)
  have hs2 := extc other (min other.size 30) (by omega)
  obtain ⟨X, hX⟩ : ∃ X, X = t.extract 0 (min t.size 30) := ⟨_, rfl⟩
  obtain ⟨Y, hY⟩ : ∃ Y, Y = other.extract 0 (min other.size 30) := ⟨_, rfl⟩
  rw [← hX] at z1 hs1
  rw [← hY] at z2 hs2
  generalize min t.size 30 = m1 at *
  generalize min other.size 30 = m2 at *
  clear hX hY
  go_enter Tryd.func4, Tryd.ntmps4
  go_upto_region 1 with fail
  obtain ⟨W1, x, hW, hx, hf, a0, a1, a2, a3, a4, a5, a6, a7⟩ := one_case w ao ao1 n cap n1 cap1 l h c b d t
  rw [hW, hx]
  have HF := Lib.hid hf
  clear hW hx hf
  go_wp2_with fail
  refine (sanity8_any _ (HT.out.frm HF.out)).mono ?_
  rintro e W2 ⟨rfl, f⟩
  have a0 := f.cell a0 (fun h => h)
  have a1 := f.cell a1 (fun h => h)
  have a2 := f.cell a2 (fun h => h)
  have a3 := f.cell a3 (fun h => h)
  have a4 := f.cell a4 (fun h => h)
  have a5 := f.cell a5 (fun h => h)
  have a6 := f.cell a6 (fun h => h)
  have a7 := f.cell a7 (fun h => h)
  have HF := Lib.hid (HF.out.trans f)
  clear f
  go_wp2_with fail
  refine (of_any X (by omega) _).mono ?_
  rintro e W3 ⟨rfl, f⟩
  have a0 := f.cell a0 (fun h => h)
  have a1 := f.cell a1 (fun h => h)
  have a2 := f.cell a2 (fun h => h)
  have a3 := f.cell a3 (fun h => h)
  have a4 := f.cell a4 (fun h => h)
  have a5 := f.cell a5 (fun h => h)
  have a6 := f.cell a6 (fun h => h)
  have a7 := f.cell a7 (fun h => h)
  have HF := Lib.hid (HF.out.trans f)
  clear f hs1 hs2 e1 e2
  have hc0 := full_in X.data.toList
  have hc1 := of_in X X.data.toList
  rw [beq_self_eq_true, Bool.and_true] at hc1
  have hc2 : Y.toList ≠ X.toList → inS (ofS X) Y.data.toList = false := fun hne => by
    rw [toList_data, toList_data] at hne
    rw [of_in, show (Y.data.toList == X.data.toList) = false from beq_eq_false_iff_ne.2 hne, Bool.and_false]
  have he := of_emp X
  have hin : ∀ a : Shp, inS a X.data.toList = true → textB X.data.toList = true ∧ empB a = false := fun a h => ⟨in_text h, emp_of h⟩
  have hz : (ofS X).bg.size ≤ 30 ∧ (ofS X).en.size ≤ 30 := by
    unfold ofS
    split
    · exact ⟨z1, z1⟩
    · exact ⟨Nat.zero_le _, Nat.zero_le _⟩
  have c0 := con_any fullS X (by omega)
  have c1 := con_any (ofS X) X (by omega)
  have c2 := con_any (ofS X) Y (by omega)
  have c3 := emp_any (ofS X) (by omega) (by omega)
  rw [hc0] at c0
  rw [hc1] at c1
  rw [he] at c3
  unfold fullS at c0
  generalize textB X.data.toList = tx at *
  generalize ofS X = a at *
  generalize inS a Y.data.toList = iy at *
  unfold shV at c0 c1 c2 c3 ⊢
  simp only at c0
  have C0 := Lib.hid c0
  have C1 := Lib.hid c1
  have C2 := Lib.hid c2
  have C3 := Lib.hid c3
  have Hc2 := Lib.hid hc2
  have Hin := Lib.hid hin
  clear c0 c1 c2 c3 hc0 hc1 hc2 he hin
  go_upto_region 5 with fail
  obtain ⟨W4, A, hW, hA, hf5, u0, u1, u2, u3, u4⟩ := one_sh W3 a.lo a.hi a.cl a.bg a.en
  rw [hW, hA]
  have a0 := hf5.cell a0 (fun h => h)
  have a1 := hf5.cell a1 (fun h => h)
  have a2 := hf5.cell a2 (fun h => h)
  have a3 := hf5.cell a3 (fun h => h)
  have a4 := hf5.cell a4 (fun h => h)
  have a5 := hf5.cell a5 (fun h => h)
  have a6 := hf5.cell a6 (fun h => h)
  have a7 := hf5.cell a7 (fun h => h)
  have HF := Lib.hid (HF.out.trans hf5)
  clear hW hA hf5
  go_wp2_with fail
  refine (full_any _).mono ?_
  rintro e V1 ⟨rfl, f⟩
  have a0 := f.cell a0 (fun h => h)
  have a1 := f.cell a1 (fun h => h)
  have a2 := f.cell a2 (fun h => h)
  have a3 := f.cell a3 (fun h => h)
  have a4 := f.cell a4 (fun h => h)
  have a5 := f.cell a5 (fun h => h)
  have a6 := f.cell a6 (fun h => h)
  have a7 := f.cell a7 (fun h => h)
  have u0 := f.cell u0 (fun h => h)
  have u1 := f.cell u1 (fun h => h)
  have u2 := f.cell u2 (fun h => h)
  have u3 := f.cell u3 (fun h => h)
  have u4 := f.cell u4 (fun h => h)
  have HF := Lib.hid (HF.out.trans f)
  clear f
  unfold shV fullS
  go_wp2_with fail
  refine (C0.out _).mono ?_
  rintro e V2 ⟨rfl, f⟩
  have a0 := f.cell a0 (fun h => h)
  have a1 := f.cell a1 (fun h => h)
  have a2 := f.cell a2 (fun h => h)
  have a3 := f.cell a3 (fun h => h)
  have a4 := f.cell a4 (fun h => h)
  have a5 := f.cell a5 (fun h => h)
  have a6 := f.cell a6 (fun h => h)
  have a7 := f.cell a7 (fun h => h)
  have u0 := f.cell u0 (fun h => h)
  have u1 := f.cell u1 (fun h => h)
  have u2 := f.cell u2 (fun h => h)
  have u3 := f.cell u3 (fun h => h)
  have u4 := f.cell u4 (fun h => h)
  have HF := Lib.hid (HF.out.trans f)
  clear f
  go_wp2_with fail
  refine (C1.out _).mono ?_
  rintro e V3 ⟨rfl, f⟩
  have a0 := f.cell a0 (fun h => h)
  have a1 := f.cell a1 (fun h => h)
  have a2 := f.cell a2 (fun h => h)
  have a3 := f.cell a3 (fun h => h)
  have a4 := f.cell a4 (fun h => h)
  have a5 := f.cell a5 (fun h => h)
  have a6 := f.cell a6 (fun h => h)
  have a7 := f.cell a7 (fun h => h)
  have u0 := f.cell u0 (fun h => h)
  have u1 := f.cell u1 (fun h => h)
  have u2 := f.cell u2 (fun h => h)
  have u3 := f.cell u3 (fun h => h)
  have u4 := f.cell u4 (fun h => h)
  have HF := Lib.hid (HF.out.trans f)
  clear f
  cases tx
  · by_cases hyx : Y.toList = X.toList
    · skip
      have hb : (Y.toList != X.toList) = false := by rw [hyx]; simp
      clear Hc2 C2
      go_wp2_with fail
      refine (C3.out _).mono ?_
      rintro e V5 ⟨rfl, f⟩
      have a0 := f.cell a0 (fun h => h)
      have a1 := f.cell a1 (fun h => h)
      have a2 := f.cell a2 (fun h => h)
      have a3 := f.cell a3 (fun h => h)
      have a4 := f.cell a4 (fun h => h)
      have a5 := f.cell a5 (fun h => h)
      have a6 := f.cell a6 (fun h => h)
      have a7 := f.cell a7 (fun h => h)
      have HF := Lib.hid (HF.out.trans f)
      clear f
      clear C0 C1 C3 u0 u1 u2 u3 u4
      go_wp2_with fail
      refine (shapes_any _ (HC.out.still HF.out)).mono ?_
      rintro e W6 ⟨s0, s1, s2, g0, g1, g2, rfl, f⟩
      have HF := Lib.hid (HF.out.trans f)
      clear f a0 a1 a2 a3 a4 a5 a6 a7
      have hr20 := row20_one s0 s1 s2
      go_wp2_with (refine wpList_store_row rfl 28 (.tmp 10) (.tmp 52) rfl _ (row20 s0 s1 s2) rfl rfl 28 _ (heap_alloc_new _ _) row_info28 rfl hr20 ?_)
      obtain ⟨W7, L, hW4, hL, hrow, hfa⟩ := arr_new W6 s0 s1 s2
      rw [hW4, hL]
      clear hW4 hL hr20
      obtain ⟨S, hS, hG⟩ := sh4_of (L := L) g0 g1 g2 hrow
      have HS := Lib.hid hS
      have HG := Lib.hid hG
      have HF := Lib.hid (HF.out.trans hfa)
      clear hS hG hrow hfa g0 g1 g2
      go_loopw [11] (fun s wr => ∃ i : Nat, s = .int .i64 i ∧ i ≤ 4 ∧ Frm (fun _ => False) W7 wr) (fun s _ => 4 - (intOf s).toNat)
      case atStart => exact ⟨0, rfl, Nat.zero_le _, Frm.refl _ _⟩
      case round =>
        obtain ⟨i, rfl, hi, hf⟩ := hrel
        by_cases hi4 : i < 4
        · have hi4I : (i : Int) < 4 := by omega
          obtain ⟨p0, p1, p2, p3, p4⟩ := (HS.out.still hf) i hi4
          have hp := HG.out i hi4
          generalize S i = p at *
          have hpb := hp.bg
          have hpe := hp.en
          clear hp
          have Hf := Lib.hid hf
          clear hf
          have hpin := Hin.out p
          have hcon := con_any p X (by omega)
          generalize inS p X.data.toList = ip at *
          unfold shV at hcon
          have Hcon := Lib.hid hcon
          clear hcon
          go_wp2_with fail
          refine (Hcon.out _).mono ?_
          rintro e V5 ⟨rfl, f⟩
          have p0 := f.cell p0 (fun h => h)
          have p1 := f.cell p1 (fun h => h)
          have p2 := f.cell p2 (fun h => h)
          have p3 := f.cell p3 (fun h => h)
          have p4 := f.cell p4 (fun h => h)
          have Hf := Lib.hid (Hf.out.trans f)
          clear f
          cases ip
          · clear hpin
            go_wp2_with fail
            go_roundw
            case rel => exact ⟨i + 1, by go_num, hi4, Hf.out⟩
            case measure => simp [intOf]; omega
          · exact absurd (hpin rfl).1 (by simp)
        · have hi4I : ¬ (i : Int) < 4 := by omega
          go_wp2_with fail
          go_ret
          exact ⟨rfl, HF.out.trans hf⟩
    · skip
      have hb : (Y.toList != X.toList) = true := by simp [bne, hyx]
      have hiy := Hc2.out hyx
      subst hiy
      clear Hc2
      go_wp2_with fail
      refine (C2.out _).mono ?_
      rintro e V4 ⟨rfl, f⟩
      have a0 := f.cell a0 (fun h => h)
      have a1 := f.cell a1 (fun h => h)
      have a2 := f.cell a2 (fun h => h)
      have a3 := f.cell a3 (fun h => h)
      have a4 := f.cell a4 (fun h => h)
      have a5 := f.cell a5 (fun h => h)
      have a6 := f.cell a6 (fun h => h)
      have a7 := f.cell a7 (fun h => h)
      have u0 := f.cell u0 (fun h => h)
      have u1 := f.cell u1 (fun h => h)
      have u2 := f.cell u2 (fun h => h)
      have u3 := f.cell u3 (fun h => h)
      have u4 := f.cell u4 (fun h => h)
      have HF := Lib.hid (HF.out.trans f)
      clear f
      go_wp2_with fail
      refine (C3.out _).mono ?_
      rintro e V5 ⟨rfl, f⟩
      have a0 := f.cell a0 (fun h => h)
      have a1 := f.cell a1 (fun h => h)
      have a2 := f.cell a2 (fun h => h)
      have a3 := f.cell a3 (fun h => h)
      have a4 := f.cell a4 (fun h => h)
      have a5 := f.cell a5 (fun h => h)
      have a6 := f.cell a6 (fun h => h)
      have a7 := f.cell a7 (fun h => h)
      have HF := Lib.hid (HF.out.trans f)
      clear f
      clear C0 C1 C3 u0 u1 u2 u3 u4 C2
      go_wp2_with fail
      refine (shapes_any _ (HC.out.still HF.out)).mono ?_
      rintro e W6 ⟨s0, s1, s2, g0, g1, g2, rfl, f⟩
      have HF := Lib.hid (HF.out.trans f)
      clear f a0 a1 a2 a3 a4 a5 a6 a7
      have hr20 := row20_one s0 s1 s2
      go_wp2_with (refine wpList_store_row rfl 28 (.tmp 10) (.tmp 52) rfl _ (row20 s0 s1 s2) rfl rfl 28 _ (heap_alloc_new _ _) row_info28 rfl hr20 ?_)
      obtain ⟨W7, L, hW4, hL, hrow, hfa⟩ := arr_new W6 s0 s1 s2
      rw [hW4, hL]
      clear hW4 hL hr20
      obtain ⟨S, hS, hG⟩ := sh4_of (L := L) g0 g1 g2 hrow
      have HS := Lib.hid hS
      have HG := Lib.hid hG
      have HF := Lib.hid (HF.out.trans hfa)
      clear hS hG hrow hfa g0 g1 g2
      go_loopw [11] (fun s wr => ∃ i : Nat, s = .int .i64 i ∧ i ≤ 4 ∧ Frm (fun _ => False) W7 wr) (fun s _ => 4 - (intOf s).toNat)
      case atStart => exact ⟨0, rfl, Nat.zero_le _, Frm.refl _ _⟩
      case round =>
        obtain ⟨i, rfl, hi, hf⟩ := hrel
        by_cases hi4 : i < 4
        · have hi4I : (i : Int) < 4 := by omega
          obtain ⟨p0, p1, p2, p3, p4⟩ := (HS.out.still hf) i hi4
          have hp := HG.out i hi4
          generalize S i = p at *
          have hpb := hp.bg
          have hpe := hp.en
          clear hp
          have Hf := Lib.hid hf
          clear hf
          have hpin := Hin.out p
          have hcon := con_any p X (by omega)
          generalize inS p X.data.toList = ip at *
          unfold shV at hcon
          have Hcon := Lib.hid hcon
          clear hcon
          go_wp2_with fail
          refine (Hcon.out _).mono ?_
          rintro e V5 ⟨rfl, f⟩
          have p0 := f.cell p0 (fun h => h)
          have p1 := f.cell p1 (fun h => h)
          have p2 := f.cell p2 (fun h => h)
          have p3 := f.cell p3 (fun h => h)
          have p4 := f.cell p4 (fun h => h)
          have Hf := Lib.hid (Hf.out.trans f)
          clear f
          cases ip
          · clear hpin
            go_wp2_with fail
            go_roundw
            case rel => exact ⟨i + 1, by go_num, hi4, Hf.out⟩
            case measure => simp [intOf]; omega
          · exact absurd (hpin rfl).1 (by simp)
        · have hi4I : ¬ (i : Int) < 4 := by omega
          go_wp2_with fail
          go_ret
          exact ⟨rfl, HF.out.trans hf⟩
  · by_cases hyx : Y.toList = X.toList
    · skip
      have hb : (Y.toList != X.toList) = false := by rw [hyx]; simp
      clear Hc2 C2
      go_wp2_with fail
      refine (C3.out _).mono ?_
      rintro e V5 ⟨rfl, f⟩
      have a0 := f.cell a0 (fun h => h)
      have a1 := f.cell a1 (fun h => h)
      have a2 := f.cell a2 (fun h => h)
      have a3 := f.cell a3 (fun h => h)
      have a4 := f.cell a4 (fun h => h)
      have a5 := f.cell a5 (fun h => h)
      have a6 := f.cell a6 (fun h => h)
      have a7 := f.cell a7 (fun h => h)
      have HF := Lib.hid (HF.out.trans f)
      clear f
      clear C0 C1 C3 u0 u1 u2 u3 u4
      go_wp2_with fail
      refine (shapes_any _ (HC.out.still HF.out)).mono ?_
      rintro e W6 ⟨s0, s1, s2, g0, g1, g2, rfl, f⟩
      have HF := Lib.hid (HF.out.trans f)
      clear f a0 a1 a2 a3 a4 a5 a6 a7
      have hr20 := row20_one s0 s1 s2
      go_wp2_with (refine wpList_store_row rfl 28 (.tmp 10) (.tmp 52) rfl _ (row20 s0 s1 s2) rfl rfl 28 _ (heap_alloc_new _ _) row_info28 rfl hr20 ?_)
      obtain ⟨W7, L, hW4, hL, hrow, hfa⟩ := arr_new W6 s0 s1 s2
      rw [hW4, hL]
      clear hW4 hL hr20
      obtain ⟨S, hS, hG⟩ := sh4_of (L := L) g0 g1 g2 hrow
      have HS := Lib.hid hS
      have HG := Lib.hid hG
      have HF := Lib.hid (HF.out.trans hfa)
      clear hS hG hrow hfa g0 g1 g2
      go_loopw [11] (fun s wr => ∃ i : Nat, s = .int .i64 i ∧ i ≤ 4 ∧ Frm (fun _ => False) W7 wr) (fun s _ => 4 - (intOf s).toNat)
      case atStart => exact ⟨0, rfl, Nat.zero_le _, Frm.refl _ _⟩
      case round =>
        obtain ⟨i, rfl, hi, hf⟩ := hrel
        by_cases hi4 : i < 4
        · have hi4I : (i : Int) < 4 := by omega
          obtain ⟨p0, p1, p2, p3, p4⟩ := (HS.out.still hf) i hi4
          have hp := HG.out i hi4
          generalize S i = p at *
          have hpb := hp.bg
          have hpe := hp.en
          clear hp
          have Hf := Lib.hid hf
          clear hf
          have hpin := Hin.out p
          have hcon := con_any p X (by omega)
          generalize inS p X.data.toList = ip at *
          unfold shV at hcon
          have Hcon := Lib.hid hcon
          clear hcon
          go_wp2_with fail
          refine (Hcon.out _).mono ?_
          rintro e V5 ⟨rfl, f⟩
          have p0 := f.cell p0 (fun h => h)
          have p1 := f.cell p1 (fun h => h)
          have p2 := f.cell p2 (fun h => h)
          have p3 := f.cell p3 (fun h => h)
          have p4 := f.cell p4 (fun h => h)
          have Hf := Lib.hid (Hf.out.trans f)
          clear f
          cases ip
          · clear hpin
            go_wp2_with fail
            go_roundw
            case rel => exact ⟨i + 1, by go_num, hi4, Hf.out⟩
            case measure => simp [intOf]; omega
          · obtain ⟨-, hpe2⟩ := hpin rfl
            have hem := emp_any p (by omega) (by omega)
            rw [hpe2] at hem
            unfold shV at hem
            have Hem := Lib.hid hem
            clear hem hpe2
            go_wp2_with fail
            refine (Hem.out _).mono ?_
            rintro e V6 ⟨rfl, f⟩
            have Hf := Lib.hid (Hf.out.trans f)
            clear f
            go_wp2_with fail
            go_roundw
            case rel => exact ⟨i + 1, by go_num, hi4, Hf.out⟩
            case measure => simp [intOf]; omega
        · have hi4I : ¬ (i : Int) < 4 := by omega
          go_wp2_with fail
          go_ret
          exact ⟨rfl, HF.out.trans hf⟩
    · skip
      have hb : (Y.toList != X.toList) = true := by simp [bne, hyx]
      have hiy := Hc2.out hyx
      subst hiy
      clear Hc2
      go_wp2_with fail
      refine (C2.out _).mono ?_
      rintro e V4 ⟨rfl, f⟩
      have a0 := f.cell a0 (fun h => h)
      have a1 := f.cell a1 (fun h => h)
      have a2 := f.cell a2 (fun h => h)
      have a3 := f.cell a3 (fun h => h)
      have a4 := f.cell a4 (fun h => h)
      have a5 := f.cell a5 (fun h => h)
      have a6 := f.cell a6 (fun h => h)
      have a7 := f.cell a7 (fun h => h)
      have u0 := f.cell u0 (fun h => h)
      have u1 := f.cell u1 (fun h => h)
      have u2 := f.cell u2 (fun h => h)
      have u3 := f.cell u3 (fun h => h)
      have u4 := f.cell u4 (fun h => h)
      have HF := Lib.hid (HF.out.trans f)
      clear f
      go_wp2_with fail
      refine (C3.out _).mono ?_
      rintro e V5 ⟨rfl, f⟩
      have a0 := f.cell a0 (fun h => h)
      have a1 := f.cell a1 (fun h => h)
      have a2 := f.cell a2 (fun h => h)
      have a3 := f.cell a3 (fun h => h)
      have a4 := f.cell a4 (fun h => h)
      have a5 := f.cell a5 (fun h => h)
      have a6 := f.cell a6 (fun h => h)
      have a7 := f.cell a7 (fun h => h)
      have HF := Lib.hid (HF.out.trans f)
      clear f
      clear C0 C1 C3 u0 u1 u2 u3 u4 C2
      go_wp2_with fail
      refine (shapes_any _ (HC.out.still HF.out)).mono ?_
      rintro e W6 ⟨s0, s1, s2, g0, g1, g2, rfl, f⟩
      have HF := Lib.hid (HF.out.trans f)
      clear f a0 a1 a2 a3 a4 a5 a6 a7
      have hr20 := row20_one s0 s1 s2
      go_wp2_with (refine wpList_store_row rfl 28 (.tmp 10) (.tmp 52) rfl _ (row20 s0 s1 s2) rfl rfl 28 _ (heap_alloc_new _ _) row_info28 rfl hr20 ?_)
      obtain ⟨W7, L, hW4, hL, hrow, hfa⟩ := arr_new W6 s0 s1 s2
      rw [hW4, hL]
      clear hW4 hL hr20
      obtain ⟨S, hS, hG⟩ := sh4_of (L := L) g0 g1 g2 hrow
      have HS := Lib.hid hS
      have HG := Lib.hid hG
      have HF := Lib.hid (HF.out.trans hfa)
      clear hS hG hrow hfa g0 g1 g2
      go_loopw [11] (fun s wr => ∃ i : Nat, s = .int .i64 i ∧ i ≤ 4 ∧ Frm (fun _ => False) W7 wr) (fun s _ => 4 - (intOf s).toNat)
      case atStart => exact ⟨0, rfl, Nat.zero_le _, Frm.refl _ _⟩
      case round =>
        obtain ⟨i, rfl, hi, hf⟩ := hrel
        by_cases hi4 : i < 4
        · have hi4I : (i : Int) < 4 := by omega
          obtain ⟨p0, p1, p2, p3, p4⟩ := (HS.out.still hf) i hi4
          have hp := HG.out i hi4
          generalize S i = p at *
          have hpb := hp.bg
          have hpe := hp.en
          clear hp
          have Hf := Lib.hid hf
          clear hf
          have hpin := Hin.out p
          have hcon := con_any p X (by omega)
          generalize inS p X.data.toList = ip at *
          unfold shV at hcon
          have Hcon := Lib.hid hcon
          clear hcon
          go_wp2_with fail
          refine (Hcon.out _).mono ?_
          rintro e V5 ⟨rfl, f⟩
          have p0 := f.cell p0 (fun h => h)
          have p1 := f.cell p1 (fun h => h)
          have p2 := f.cell p2 (fun h => h)
          have p3 := f.cell p3 (fun h => h)
          have p4 := f.cell p4 (fun h => h)
          have Hf := Lib.hid (Hf.out.trans f)
          clear f
          cases ip
          · clear hpin
            go_wp2_with fail
            go_roundw
            case rel => exact ⟨i + 1, by go_num, hi4, Hf.out⟩
            case measure => simp [intOf]; omega
          · obtain ⟨-, hpe2⟩ := hpin rfl
            have hem := emp_any p (by omega) (by omega)
            rw [hpe2] at hem
            unfold shV at hem
            have Hem := Lib.hid hem
            clear hem hpe2
            go_wp2_with fail
            refine (Hem.out _).mono ?_
            rintro e V6 ⟨rfl, f⟩
            have Hf := Lib.hid (Hf.out.trans f)
            clear f
            go_wp2_with fail
            go_roundw
            case rel => exact ⟨i + 1, by go_num, hi4, Hf.out⟩
            case measure => simp [intOf]; omega
        · have hi4I : ¬ (i : Int) < 4 := by omega
          go_wp2_with fail
          go_ret
          exact ⟨rfl, HF.out.trans hf⟩
end Go.Proofs.YtgnjakaamgeibaaDoor
