/-
  The law DateYears. Conditions: the package variables read as the text lays them.
-/
import Derived.Test.YtmpfgdpicbpedaaDoorSan
namespace Go.Proofs.YtmpfgdpicbpedaaDoor
open Go.RowKit Go.Shelf
attribute [local go_sem] Oper.semAt_some

theorem lp_400 (y : Int) : lp (y + 400) = lp y := by
  unfold lp leapB
  rw [show (y + 400) % 4 = y % 4 by omega, show (y + 400) % 100 = y % 100 by omega, show (y + 400) % 400 = y % 400 by omega]
theorem dim_400 (y m : Int) : dim (y + 400) m = dim y m := by unfold dim; rw [lp_400]
theorem cum_400 (y m : Int) : cum (y + 400) m = cum y m := by unfold cum; rw [lp_400]
theorem bef_400 (y : Int) : bef (y + 400) = bef y + 146097 := by unfold bef; omega
theorem vld_400 {y m d : Int} (h1 : 1 ≤ y) (h2 : y ≤ 9599) : vldB (y + 400) m d = vldB y m d := by
  unfold vldB
  rw [dim_400, Bool.eq_iff_iff]
  simp only [decide_eq_true_eq]
  constructor <;> intro h <;> refine ⟨by omega, by omega, by omega, by omega, by omega, by omega⟩
theorem num_400 (y m d : Int) : num (y + 400) m d = num y m d + 146097 := by unfold num; rw [bef_400, cum_400]; omega

set_option maxRecDepth 100000 in
set_option maxHeartbeats 1000000 in
theorem law_years (a b c : Int) (w : World) (hT : Tabs w) (ha : 0 ≤ a ∧ a ≤ 65535) (hb : 0 ≤ b ∧ b ≤ 255) (hc : 0 ≤ c ∧ c ≤ 255) : Calls Tryd.prog 5 #[.int .u16 a, .int .u8 b, .int .u8 c] w fun e w' => e = .returned (.bool true) ∧ Frm (fun _ => False) w w' := by
  obtain ⟨a0, a1⟩ := ha
  obtain ⟨b0, b1⟩ := hb
  obtain ⟨c0, c1⟩ := hc
  go_enter Tryd.func5, Tryd.ntmps5
  go_wp2_with fail
  refine (sanity_any w hT).mono ?_
  rintro e w1 ⟨rfl, f1⟩
  have hT1 := hT.frm f1
  clear hT
  have hy1 : 1 ≤ 1 + a % 9599 := by omega
  have hy2 : 1 + a % 9599 ≤ 9599 := by omega
  go_wp2_with fail
  generalize 1 + a % 9599 = y at hy1 hy2 ⊢
  have v1 : vldB y 1 1 = true := vld_iff.2 ⟨by omega, by omega, by omega, by omega, by omega, by have := dim_bd y 1; omega⟩
  have v2 : vldB y 12 31 = true := vld_iff.2 ⟨by omega, by omega, by omega, by omega, by omega, Int.le_refl _⟩
  have n1 : numR y 1 1 = .tuple #[.int .i64 (num y 1 1), .bool true] := by unfold numR; rw [if_pos v1]
  have n2 : numR y 12 31 = .tuple #[.int .i64 (num y 12 31), .bool true] := by unfold numR; rw [if_pos v2]
  have bd1 := num_bd v1
  have bd2 := num_bd v2
  have hdif : num y 12 31 = num y 1 1 + 364 + lp y := by
    have hc := cum_succ y 12 (by omega) (by omega)
    have h13 := cum_13 y
    have hc1 := cum_one y
    rw [show (12 : Int) + 1 = 13 from rfl, show dim y 12 = 31 from rfl] at hc
    unfold num
    omega
  have h30 : vldB y 2 30 = false := by
    cases hq : vldB y 2 30
    · rfl
    · have := (vld_iff.1 hq).2.2.2.2.2
      have h2 : dim y 2 = 28 + lp y := by simp [dim]
      have := lp_01 y
      omega
  have h28 : vldB y 2 28 = true := vld_iff.2 ⟨by omega, by omega, by omega, by omega, by omega, by have := dim_bd y 2; omega⟩
  have h29 : vldB y 2 29 = decide (lp y = 1) := by
    have h2 : dim y 2 = 28 + lp y := by simp [dim]
    have := lp_01 y
    unfold vldB
    rw [h2, decide_eq_decide]
    constructor
    · intro h; omega
    · intro h; refine ⟨by omega, by omega, by omega, by omega, by omega, by omega⟩
  have hl := lp_01 y
  have H400 := Lib.hid (fun m d => vld_400 (y := y) (m := m) (d := d) hy1 hy2)
  generalize num y 12 31 = N2 at n2 bd2 hdif
  have Hnum := Lib.hid (fun m d => num_400 y m d)
  have Hbd := Lib.hid (fun m d (h : vldB y m d = true) => num_bd h)
  generalize num y 1 1 = N1 at n1 bd1 hdif
  obtain ⟨L, hL⟩ : ∃ L, L = lp y := ⟨_, rfl⟩
  rw [← hL] at hdif h29 hl
  clear hL
  have Hn1 := Lib.hid n1
  have Hn2 := Lib.hid n2
  have H30 := Lib.hid h30
  have H28 := Lib.hid h28
  have H29 := Lib.hid h29
  have Hdif := Lib.hid hdif
  clear n1 n2 h30 h28 h29 v1 v2 hdif
  obtain ⟨b3, b4⟩ := bd1
  obtain ⟨b5, b6⟩ := bd2
  obtain ⟨l0, l1⟩ := hl
  have hm1 : 0 ≤ b % 14 := by omega
  have hd1 : 0 ≤ c % 33 := by omega
  refine (num_any y 1 1 w1 hT1).mono ?_
  rintro e w1 ⟨rfl, rfl⟩
  rw [Hn1.out]
  go_wp2_with fail
  refine (num_any y 12 31 w1 hT1).mono ?_
  rintro e w1 ⟨rfl, rfl⟩
  rw [Hn2.out]
  go_wp2_with fail
  refine (valid_any y 2 29 w1 hT1).mono ?_
  rintro e w1 ⟨rfl, rfl⟩
  rw [H29.out]
  have key : ∀ (D : Int), N2 - N1 = D → (N2 - N1 == D) = true := fun D h => by simp [h]
  obtain ⟨V, hV⟩ : ∃ V, V = vldB y (b % 14) (c % 33) := ⟨_, rfl⟩
  have HV := Lib.hid hV
  clear hV
  by_cases hL : L = 1
  · have hk := key 365 (by have := Hdif.out; omega)
    rw [decide_eq_true hL]
    clear hL key
    cases V
    ·
      have HA : numR y (b % 14) (c % 33) = .tuple #[.int .i64 0, .bool false] := by
        unfold numR
        rw [← HV.out, if_neg (by simp)]
      have HB : numR (y + 400) (b % 14) (c % 33) = .tuple #[.int .i64 0, .bool false] := by
        unfold numR
        rw [H400.out, ← HV.out, if_neg (by simp)]
      have HA2 := Lib.hid HA
      have HB2 := Lib.hid HB
      clear HA HB
      go_wp2_with fail
      refine (num_any y (b % 14) (c % 33) w1 hT1).mono ?_
      rintro e w1 ⟨rfl, rfl⟩
      rw [HA2.out]
      go_wp2_with fail
      refine (num_any (y + 400) (b % 14) (c % 33) w1 hT1).mono ?_
      rintro e w1 ⟨rfl, rfl⟩
      rw [HB2.out]
      go_wp2_with fail
      refine (valid_any y 2 30 w1 hT1).mono ?_
      rintro e w1 ⟨rfl, rfl⟩
      rw [H30.out]
      go_wp2_with fail
      refine (valid_any y 2 28 w1 hT1).mono ?_
      rintro e w1 ⟨rfl, rfl⟩
      rw [H28.out]
      go_wp2_with fail
      go_ret
      exact ⟨rfl, f1⟩
    ·
      obtain ⟨C, hC⟩ : ∃ C, C = num y (b % 14) (c % 33) := ⟨_, rfl⟩
      have hCb := Hbd.out _ _ HV.out.symm
      rw [← hC] at hCb
      obtain ⟨hC0, hC1⟩ := hCb
      have hk2 : (C + 146097 - C == 146097) = true := by rw [beq_iff_eq]; omega
      have HA : numR y (b % 14) (c % 33) = .tuple #[.int .i64 C, .bool true] := by
        unfold numR
        rw [if_pos HV.out.symm, ← hC]
      have HB : numR (y + 400) (b % 14) (c % 33) = .tuple #[.int .i64 (C + 146097), .bool true] := by
        unfold numR
        rw [H400.out, if_pos HV.out.symm, Hnum.out, ← hC]
      have HA2 := Lib.hid HA
      have HB2 := Lib.hid HB
      clear HA HB hC
      go_wp2_with fail
      refine (num_any y (b % 14) (c % 33) w1 hT1).mono ?_
      rintro e w1 ⟨rfl, rfl⟩
      rw [HA2.out]
      go_wp2_with fail
      refine (num_any (y + 400) (b % 14) (c % 33) w1 hT1).mono ?_
      rintro e w1 ⟨rfl, rfl⟩
      rw [HB2.out]
      go_wp2_with fail
      refine (valid_any y 2 30 w1 hT1).mono ?_
      rintro e w1 ⟨rfl, rfl⟩
      rw [H30.out]
      go_wp2_with fail
      refine (valid_any y 2 28 w1 hT1).mono ?_
      rintro e w1 ⟨rfl, rfl⟩
      rw [H28.out]
      go_wp2_with fail
      go_ret
      exact ⟨rfl, f1⟩
  · have hk := key 364 (by have := Hdif.out; omega)
    rw [decide_eq_false hL]
    clear hL key
    cases V
    ·
      have HA : numR y (b % 14) (c % 33) = .tuple #[.int .i64 0, .bool false] := by
        unfold numR
        rw [← HV.out, if_neg (by simp)]
      have HB : numR (y + 400) (b % 14) (c % 33) = .tuple #[.int .i64 0, .bool false] := by
        unfold numR
        rw [H400.out, ← HV.out, if_neg (by simp)]
      have HA2 := Lib.hid HA
      have HB2 := Lib.hid HB
      clear HA HB
      go_wp2_with fail
      refine (num_any y (b % 14) (c % 33) w1 hT1).mono ?_
      rintro e w1 ⟨rfl, rfl⟩
      rw [HA2.out]
      go_wp2_with fail
      refine (num_any (y + 400) (b % 14) (c % 33) w1 hT1).mono ?_
      rintro e w1 ⟨rfl, rfl⟩
      rw [HB2.out]
      go_wp2_with fail
      refine (valid_any y 2 30 w1 hT1).mono ?_
      rintro e w1 ⟨rfl, rfl⟩
      rw [H30.out]
      go_wp2_with fail
      refine (valid_any y 2 28 w1 hT1).mono ?_
      rintro e w1 ⟨rfl, rfl⟩
      rw [H28.out]
      go_wp2_with fail
      go_ret
      exact ⟨rfl, f1⟩
    ·
      obtain ⟨C, hC⟩ : ∃ C, C = num y (b % 14) (c % 33) := ⟨_, rfl⟩
      have hCb := Hbd.out _ _ HV.out.symm
      rw [← hC] at hCb
      obtain ⟨hC0, hC1⟩ := hCb
      have hk2 : (C + 146097 - C == 146097) = true := by rw [beq_iff_eq]; omega
      have HA : numR y (b % 14) (c % 33) = .tuple #[.int .i64 C, .bool true] := by
        unfold numR
        rw [if_pos HV.out.symm, ← hC]
      have HB : numR (y + 400) (b % 14) (c % 33) = .tuple #[.int .i64 (C + 146097), .bool true] := by
        unfold numR
        rw [H400.out, if_pos HV.out.symm, Hnum.out, ← hC]
      have HA2 := Lib.hid HA
      have HB2 := Lib.hid HB
      clear HA HB hC
      go_wp2_with fail
      refine (num_any y (b % 14) (c % 33) w1 hT1).mono ?_
      rintro e w1 ⟨rfl, rfl⟩
      rw [HA2.out]
      go_wp2_with fail
      refine (num_any (y + 400) (b % 14) (c % 33) w1 hT1).mono ?_
      rintro e w1 ⟨rfl, rfl⟩
      rw [HB2.out]
      go_wp2_with fail
      refine (valid_any y 2 30 w1 hT1).mono ?_
      rintro e w1 ⟨rfl, rfl⟩
      rw [H30.out]
      go_wp2_with fail
      refine (valid_any y 2 28 w1 hT1).mono ?_
      rintro e w1 ⟨rfl, rfl⟩
      rw [H28.out]
      go_wp2_with fail
      go_ret
      exact ⟨rfl, f1⟩
end Go.Proofs.YtmpfgdpicbpedaaDoor
