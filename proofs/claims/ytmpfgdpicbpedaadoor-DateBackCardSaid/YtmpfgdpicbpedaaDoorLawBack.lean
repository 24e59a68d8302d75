/-
  The law DateBack. Conditions: the package variables read as the text lays them.
-/
import Derived.Test.YtmpfgdpicbpedaaDoorTwo
namespace Go.Proofs.YtmpfgdpicbpedaaDoor
open Go.RowKit Go.Shelf
attribute [local go_sem] Oper.semAt_some

/-- The number of the day that stands in the month at a place. -/
def dayAt (P d : Int) : Int := num (P / 12 + 1) (P % 12 + 1) (min d (dim (P / 12 + 1) (P % 12 + 1)))
theorem mon_in {y m d k : Int} (h : 0 ≤ place y m + k ∧ place y m + k ≤ 119987) : monR y m d k = .tuple #[.int .i64 (dayAt (place y m + k) d), .bool true] := by
  unfold monR dayAt
  rw [if_pos h]
theorem at_civ {P d : Int} (h0 : 0 ≤ P) (h1 : P ≤ 119987) (hd : 1 ≤ d) : Civ (dayAt P d) (P / 12 + 1) (P % 12 + 1) (min d (dim (P / 12 + 1) (P % 12 + 1))) := by
  have := dim_bd (P / 12 + 1) (P % 12 + 1)
  exact ⟨vld_iff.2 ⟨by omega, by omega, by omega, by omega, by omega, by omega⟩, rfl⟩
theorem place_at (P : Int) : place (P / 12 + 1) (P % 12 + 1) = P := by unfold place; omega
theorem at_place {y m d : Int} (hm1 : 1 ≤ m) (hm : m ≤ 12) : dayAt (place y m) d = num y m (min d (dim y m)) := by
  unfold dayAt
  rw [show place y m / 12 + 1 = y by unfold place; omega, show place y m % 12 + 1 = m by unfold place; omega]

set_option maxRecDepth 100000 in
set_option maxHeartbeats 1000000 in
theorem law_back (a b c : Int) (w : World) (hT : Tabs w) (ha : 0 ≤ a ∧ a ≤ 4294967295) (hb : 0 ≤ b ∧ b ≤ 65535) (hc : 0 ≤ c ∧ c ≤ 65535) : Calls Tryd.prog 7 #[.int .u32 a, .int .u16 b, .int .u16 c] w fun e w' => e = .returned (.bool true) ∧ Frm (fun _ => False) w w' := by
  obtain ⟨a0, a1⟩ := ha
  obtain ⟨b0, b1⟩ := hb
  obtain ⟨c0, c1⟩ := hc
  go_enter Tryd.func7, Tryd.ntmps7
  go_wp2_with fail
  refine (sanity_any w hT).mono ?_
  rintro e w1 ⟨rfl, f1⟩
  have hT1 := hT.frm f1
  clear hT
  have hk0 : 0 ≤ a % 3000000 := by omega
  have hk1 : a % 3000000 < 3000000 := by omega
  have hp0 : 0 ≤ b % 2000 := by omega
  have hp1 : b % 2000 < 2000 := by omega
  have hq0 : 0 ≤ c % 2000 := by omega
  have hq1 : c % 2000 < 2000 := by omega
  go_wp2_with fail
  generalize a % 3000000 = K at hk0 hk1 ⊢
  generalize b % 2000 = p at hp0 hp1 ⊢
  generalize c % 2000 = q at hq0 hq1 ⊢
  refine (months_any K p w1 hT1 (by omega) (by omega)).mono ?_
  rintro e w1 ⟨hm, rfl⟩
  rcases hm with ⟨hno, rfl⟩ | ⟨y, m, d, hciv, rfl⟩
  · rw [in_iff.2 (by omega)] at hno
    simp at hno
  · have hv := vld_iff.1 hciv.1
    have hyb : y ≤ 8300 := by
      have h1 := (num_lo hciv.1).1
      rw [hciv.2] at h1
      unfold bef at h1
      omega
    obtain ⟨P, hP⟩ : ∃ P, P = place y m := ⟨_, rfl⟩
    have hP0 : 0 ≤ P ∧ P ≤ 99600 := by rw [hP]; unfold place; omega
    have hPm : (m - 1 + p) % 12 = (P + p) % 12 := by rw [hP]; unfold place; omega
    have r1 : monR y m d p = .tuple #[.int .i64 (dayAt (P + p) d), .bool true] := by rw [mon_in (by rw [← hP]; omega), ← hP]
    have r2 : monR y m d (p + q) = .tuple #[.int .i64 (dayAt (P + (p + q)) d), .bool true] := by rw [mon_in (by rw [← hP]; omega), ← hP]
    have hx := at_civ (P := P + p) (d := d) (by omega) (by omega) (by omega)
    have hdm1 := dim_bd ((P + p) / 12 + 1) ((P + p) % 12 + 1)
    obtain ⟨d1, hd1⟩ : ∃ d1, d1 = min d (dim ((P + p) / 12 + 1) ((P + p) % 12 + 1)) := ⟨_, rfl⟩
    rw [← hd1] at hx
    have r3 : monR ((P + p) / 12 + 1) ((P + p) % 12 + 1) d1 q = .tuple #[.int .i64 (dayAt (P + p + q) d1), .bool true] := by rw [mon_in (by rw [place_at]; omega), place_at]
    have r4 : monR ((P + p) / 12 + 1) ((P + p) % 12 + 1) d1 (-p) = .tuple #[.int .i64 (dayAt (P + p + -p) d1), .bool true] := by rw [mon_in (by rw [place_at]; omega), place_at]
    have hd1le : d1 ≤ d := by omega
    have hbk : dayAt (P + p + -p) d1 ≤ K := by
      rw [show P + p + -p = P by omega, hP, at_place hv.2.2.1 hv.2.2.2.1, ← hciv.2]
      unfold num
      omega
    have hbk0 : d ≤ 28 → dayAt (P + p + -p) d1 = K ∧ dayAt (P + p + q) d1 = dayAt (P + (p + q)) d ∧ d1 = d := by
      intro h28
      have e1 : d1 = d := by omega
      refine ⟨?_, by rw [e1, show P + p + q = P + (p + q) by omega], e1⟩
      rw [show P + p + -p = P by omega, hP, at_place hv.2.2.1 hv.2.2.2.1, ← hciv.2, e1, show min d (dim y m) = d by omega]
    have hXb := hx.bd
    have hBb := (at_civ (P := P + (p + q)) (d := d) (by omega) (by omega) (by omega)).bd
    have hd11 : 1 ≤ d1 := by omega
    have hYb := (at_civ (P := P + p + q) (d := d1) (by omega) (by omega) hd11).bd
    have hZb := (at_civ (P := P + p + -p) (d := d1) (by omega) (by omega) hd11).bd
    clear hd1 hP
    generalize dayAt (P + p) d = X at r1 hx hXb
    generalize dayAt (P + (p + q)) d = B at r2 hBb hbk0
    generalize dayAt (P + p + q) d1 = Y at r3 hYb hbk0
    generalize dayAt (P + p + -p) d1 = Z at r4 hZb hbk hbk0
    have hy1 : 1 ≤ (P + p) / 12 + 1 := by omega
    have hm1 : 1 ≤ (P + p) % 12 + 1 ∧ (P + p) % 12 + 1 ≤ 12 := by omega
    have hPm2 : (m - 1 + p) % 12 = (P + p) % 12 + 1 - 1 := by omega
    generalize (P + p) / 12 + 1 = y1 at r3 r4 hx hdm1 hy1
    generalize (P + p) % 12 + 1 = m1 at r3 r4 hx hdm1 hm1 hPm2
    have R1 := Lib.hid r1
    have R2 := Lib.hid r2
    have R3 := Lib.hid r3
    have R4 := Lib.hid r4
    have Hciv := Lib.hid hciv
    have Hx := Lib.hid hx
    have Hbk0 := Lib.hid hbk0
    have hm01 : 1 ≤ m ∧ m ≤ 12 := ⟨hv.2.2.1, hv.2.2.2.1⟩
    have hd0 : 1 ≤ d ∧ d ≤ 31 := by have := dim_bd y m; omega
    have hne : ((m - 1 + p) % 12 != m1 - 1) = false := by rw [hPm2]; simp
    have hgt : decide (d < d1) = false := decide_eq_false (by omega)
    have hle : decide (Z ≤ K) = true := decide_eq_true hbk
    have Hpm := Lib.hid hPm2
    clear r1 r2 r3 r4 hciv hx hbk0 hPm hPm2 hdm1 hP0 hv hyb
    obtain ⟨u0, u1⟩ := hXb
    obtain ⟨u2, u3⟩ := hBb
    obtain ⟨u4, u5⟩ := hYb
    obtain ⟨u6, u7⟩ := hZb
    obtain ⟨u8, u9⟩ := hm1
    obtain ⟨u10, u11⟩ := hm01
    obtain ⟨u12, u13⟩ := hd0
    rw [R1.out]
    go_wp2_with fail
    refine (months_civ Hciv.out (p + q) _ hT1 (by omega) (by omega)).mono ?_
    rintro e w1 ⟨rfl, rfl⟩
    rw [R2.out]
    go_wp2_with fail
    refine (months_civ Hx.out q _ hT1 (by omega) (by omega)).mono ?_
    rintro e w1 ⟨rfl, rfl⟩
    rw [R3.out]
    go_wp2_with fail
    refine (months_civ Hx.out (-p) _ hT1 (by omega) (by omega)).mono ?_
    rintro e w1 ⟨rfl, rfl⟩
    rw [R4.out]
    go_wp2_with fail
    refine (civil_civ Hciv.out _ hT1).mono ?_
    rintro e w1 ⟨rfl, rfl⟩
    go_wp2_with fail
    refine (civil_civ Hx.out _ hT1).mono ?_
    rintro e w1 ⟨rfl, rfl⟩
    go_wp2_with fail
    refine (civil_civ Hciv.out _ hT1).mono ?_
    rintro e w1 ⟨rfl, rfl⟩
    by_cases h28 : d ≤ 28
    · obtain ⟨rfl, rfl, rfl⟩ := Hbk0.out h28
      have h28' : decide (28 < d1) = false := decide_eq_false (by omega)
      have es : (Z == Z) = true := by simp
      clear Hbk0
      go_wp2_with fail
      go_ret
      exact ⟨rfl, f1⟩
    · have h28' : decide (28 < d) = true := decide_eq_true (by omega)
      clear Hbk0
      go_wp2_with fail
      go_ret
      exact ⟨rfl, f1⟩
end Go.Proofs.YtmpfgdpicbpedaaDoor
