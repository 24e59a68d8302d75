/-
  The law DateInverse. Conditions: the package variables read as the text lays them.
-/
import Derived.Test.YtmpfgdpicbpedaaDoorSan
namespace Go.Proofs.YtmpfgdpicbpedaaDoor
open Go.RowKit Go.Shelf
attribute [local go_sem] Oper.semAt_some

theorem next_day {y m d : Int} (h : vldB y m d = true) (hn : num y m d < 3652058) :
    (d < dim y m ∧ Civ (num y m d + 1) y m (d + 1)) ∨ (d = dim y m ∧ m < 12 ∧ Civ (num y m d + 1) y (m + 1) 1) ∨ (d = dim y m ∧ m = 12 ∧ Civ (num y m d + 1) (y + 1) 1 1) := by
  have h2 := vld_iff.1 h
  by_cases hd : d < dim y m
  · refine .inl ⟨hd, vld_iff.2 (by omega), by unfold num; omega⟩
  · have hd2 : d = dim y m := by omega
    by_cases hm : m < 12
    · refine .inr (.inl ⟨hd2, hm, vld_iff.2 ⟨by omega, by omega, by omega, by omega, by omega, by have := dim_bd y (m + 1); omega⟩, ?_⟩)
      have := cum_succ y m (by omega) (by omega)
      unfold num
      omega
    · have hm2 : m = 12 := by omega
      subst hm2
      have hc := cum_succ y 12 (by omega) (by omega)
      have h13 := cum_13 y
      have hb := bef_succ y
      have hc1 := cum_one (y + 1)
      have hnum : num (y + 1) 1 1 = num y 12 d + 1 := by
        unfold num
        rw [show (12 : Int) + 1 = 13 from rfl] at hc
        omega
      refine .inr (.inr ⟨hd2, rfl, vld_iff.2 ⟨by omega, ?_, by omega, by omega, by omega, by have := dim_bd (y + 1) 1; omega⟩, hnum⟩)
      rcases Int.lt_or_le y 9999 with hy | hy
      · omega
      · have : y = 9999 := by omega
        subst this
        exfalso
        have hbm := bef_max
        rw [show (9999 : Int) + 1 = 10000 from rfl] at hb
        rw [show (12 : Int) + 1 = 13 from rfl] at hc
        unfold num at hn
        omega

set_option maxRecDepth 100000 in
set_option maxHeartbeats 1000000 in
theorem law_inv (a : Int) (w : World) (hT : Tabs w) (ha : 0 ≤ a ∧ a ≤ 4294967295) : Calls Tryd.prog 4 #[.int .u32 a] w fun e w' => e = .returned (.bool true) ∧ Frm (fun _ => False) w w' := by
  obtain ⟨h0, h1⟩ := ha
  go_enter Tryd.func4, Tryd.ntmps4
  go_wp2_with fail
  refine (sanity_any w hT).mono ?_
  rintro e w1 ⟨rfl, f1⟩
  have hT1 := hT.frm f1
  clear hT
  have hk1 : 0 ≤ a % 3652058 := by omega
  have hk2 : a % 3652058 < 3652058 := by omega
  go_wp2_with fail
  refine (civil_any (a % 3652058) w1 hT1).mono ?_
  rintro e w1 ⟨hc, rfl⟩
  obtain ⟨k, hk⟩ : ∃ k, k = a % 3652058 := ⟨_, rfl⟩
  rw [← hk] at hc hk1 hk2 ⊢
  clear hk h0 h1
  rcases hc with ⟨hno, rfl⟩ | ⟨y, m, d, hciv, rfl⟩
  · rw [in_iff.2 (by omega)] at hno
    simp at hno
  · have hv := vld_iff.1 hciv.1
    have hdm := dim_bd y m
    have hnx := next_day hciv.1 (by rw [hciv.2]; exact hk2)
    rw [hciv.2] at hnx
    have Hciv := Lib.hid hciv
    have hnr : numR y m d = .tuple #[.int .i64 k, .bool true] := by unfold numR; rw [if_pos hciv.1, hciv.2]
    have Hnr := Lib.hid hnr
    have hvd := hciv.1
    have Hvd := Lib.hid hvd
    clear hciv hnr hvd
    obtain ⟨q1, q2, q3, q4, q5, q6⟩ := hv
    have ey : (y == y) = true := by simp
    have em : (m == m) = true := by simp
    have ed : (d + 1 == d + 1) = true := by simp
    have ek : (k == k) = true := by simp
    rcases hnx with ⟨hd, hc2⟩ | ⟨hd, hm, hc2⟩ | ⟨hd, hm, hc2⟩
    · have Hc2 := Lib.hid (fun w hT => civil_civ hc2 w hT)
      have e1 : (d + 1 == 1) = false := by rw [beq_eq_false_iff_ne]; omega
      have e2 : (d + 1 != 1) = true := bne_iff_ne.2 (by omega)
      clear hc2 hd
      go_wp2_with fail
      refine (Hc2.out w1 hT1).mono ?_
      rintro e w1 ⟨rfl, rfl⟩
      go_wp2_with fail
      refine (num_any y m d w1 hT1).mono ?_
      rintro e w1 ⟨rfl, rfl⟩
      rw [Hnr.out]
      go_wp2_with fail
      refine (valid_any y m d w1 hT1).mono ?_
      rintro e w1 ⟨rfl, rfl⟩
      rw [Hvd.out]
      go_wp2_with fail
      go_ret
      exact ⟨rfl, f1⟩
    · have Hc2 := Lib.hid (fun w hT => civil_civ hc2 w hT)
      have e1 : ((1 : Int) == d + 1) = false := by rw [beq_eq_false_iff_ne]; omega
      have e2 : (m + 1 == m) = false := by rw [beq_eq_false_iff_ne]; omega
      have e3 : (m + 1 == m + 1) = true := by simp
      have hnv : vldB y m (d + 1) = false := by
        cases hq : vldB y m (d + 1)
        · rfl
        · have := vld_iff.1 hq; omega
      have Hnv := Lib.hid hnv
      clear hnv
      clear hc2 hd
      go_wp2_with fail
      refine (Hc2.out w1 hT1).mono ?_
      rintro e w1 ⟨rfl, rfl⟩
      go_wp2_with fail
      refine (num_any y m d w1 hT1).mono ?_
      rintro e w1 ⟨rfl, rfl⟩
      rw [Hnr.out]
      go_wp2_with fail
      refine (valid_any y m (d + 1) w1 hT1).mono ?_
      rintro e w1 ⟨rfl, rfl⟩
      rw [Hnv.out]
      go_wp2_with fail
      refine (valid_any y m d w1 hT1).mono ?_
      rintro e w1 ⟨rfl, rfl⟩
      rw [Hvd.out]
      go_wp2_with fail
      go_ret
      exact ⟨rfl, f1⟩
    · have Hc2 := Lib.hid (fun w hT => civil_civ hc2 w hT)
      have e1 : ((1 : Int) == d + 1) = false := by rw [beq_eq_false_iff_ne]; omega
      have e2 : (y + 1 == y) = false := by rw [beq_eq_false_iff_ne]; omega
      have e3 : (y + 1 == y + 1) = true := by simp
      have e4 : ((1 : Int) == m) = false := by rw [beq_eq_false_iff_ne]; omega
      have hnv : vldB y m (d + 1) = false := by
        cases hq : vldB y m (d + 1)
        · rfl
        · have := vld_iff.1 hq; omega
      have Hnv := Lib.hid hnv
      clear hnv
      have e5 : (m == 12) = true := by simp [hm]
      have e6 : ((1 : Int) == m + 1) = false := by rw [beq_eq_false_iff_ne]; omega
      clear hm
      clear hc2 hd
      go_wp2_with fail
      refine (Hc2.out w1 hT1).mono ?_
      rintro e w1 ⟨rfl, rfl⟩
      go_wp2_with fail
      refine (num_any y m d w1 hT1).mono ?_
      rintro e w1 ⟨rfl, rfl⟩
      rw [Hnr.out]
      go_wp2_with fail
      refine (valid_any y m (d + 1) w1 hT1).mono ?_
      rintro e w1 ⟨rfl, rfl⟩
      rw [Hnv.out]
      go_wp2_with fail
      refine (valid_any y m d w1 hT1).mono ?_
      rintro e w1 ⟨rfl, rfl⟩
      rw [Hvd.out]
      go_wp2_with fail
      go_ret
      exact ⟨rfl, f1⟩
end Go.Proofs.YtmpfgdpicbpedaaDoor
