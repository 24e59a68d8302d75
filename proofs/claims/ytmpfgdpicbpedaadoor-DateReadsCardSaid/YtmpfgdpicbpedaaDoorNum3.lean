/-
  Weekdays, sums and months of both sides; remainders. Conditions: the package variables read as the text lays them.
-/
import Derived.Test.YtmpfgdpicbpedaaDoorNum2
namespace Go.Proofs.YtmpfgdpicbpedaaDoor
open Go.RowKit

/-- What Weekday returns. -/
def wkR (n : Int) : Value := if inB n = true then .tuple #[.int .i64 (n % 7 + 1), .bool true] else .tuple #[.int .i64 0, .bool false]
theorem week_any (n : Int) (w : World) : Calls Tryd.prog 33 #[.int .i64 n] w fun e w' => e = .returned (wkR n) ∧ w = w' := by
  have he := exists_any n w
  unfold wkR
  cases hb : inB n
  · rw [hb] at he
    have He := Lib.hid he
    rw [if_neg (by decide)]
    clear he hb
    go_enter Tryd.func33, Tryd.ntmps33
    go_wp2_with (go_at_call 40; refine He.out.mono ?_; rintro e w' ⟨rfl, rfl⟩)
    go_ret2
    exact ⟨rfl, rfl⟩
  · obtain ⟨h1, h2⟩ := in_iff.1 hb
    rw [hb] at he
    have He := Lib.hid he
    rw [if_pos rfl]
    clear he hb
    go_enter Tryd.func33, Tryd.ntmps33
    go_wp2_with (go_at_call 40; refine He.out.mono ?_; rintro e w' ⟨rfl, rfl⟩)
    go_ret2
    exact ⟨rfl, rfl⟩
theorem rweek_any (n : Int) (w : World) : Calls Tryd.prog 34 #[.int .i64 n] w fun e w' => e = .returned (wkR n) ∧ w = w' := by
  have he := right_any n w
  unfold wkR
  cases hb : inB n
  · rw [hb] at he
    have He := Lib.hid he
    rw [if_neg (by decide)]
    clear he hb
    go_enter Tryd.func34, Tryd.ntmps34
    go_wp2_with (go_at_call 42; refine He.out.mono ?_; rintro e w' ⟨rfl, rfl⟩)
    go_ret2
    exact ⟨rfl, rfl⟩
  · obtain ⟨h1, h2⟩ := in_iff.1 hb
    rw [hb] at he
    have He := Lib.hid he
    rw [if_pos rfl, Int.add_comm]
    clear he hb
    go_enter Tryd.func34, Tryd.ntmps34
    go_wp2_with (go_at_call 42; refine He.out.mono ?_; rintro e w' ⟨rfl, rfl⟩)
    go_ret2
    exact ⟨rfl, rfl⟩

/-- What Add returns. -/
def addR (n k : Int) : Value := if inB n = true ∧ inB (n + k) = true then .tuple #[.int .i64 (n + k), .bool true] else .tuple #[.int .i64 0, .bool false]
theorem add_any (n k : Int) (w : World) (_hk1 : -9223372036854775808 ≤ k) (_hk2 : k ≤ 9223372036854775807) : Calls Tryd.prog 31 #[.int .i64 n, .int .i64 k] w fun e w' => e = .returned (addR n k) ∧ w = w' := by
  have he := exists_any n w
  unfold addR
  cases hb : inB n
  · rw [hb] at he
    have He := Lib.hid he
    rw [if_neg (by simp)]
    clear he hb
    go_enter Tryd.func31, Tryd.ntmps31
    go_wp2_with (go_at_call 40; refine He.out.mono ?_; rintro e w' ⟨rfl, rfl⟩)
    go_ret2
    exact ⟨rfl, rfl⟩
  · obtain ⟨h1, h2⟩ := in_iff.1 hb
    rw [hb] at he
    have He := Lib.hid he
    by_cases hs : 0 ≤ n + k ∧ n + k ≤ 3652058
    · obtain ⟨s1, s2⟩ := hs
      rw [if_pos ⟨rfl, in_iff.2 ⟨s1, s2⟩⟩]
      have t1 : -n ≤ k := by omega
      have t2 : k ≤ 3652058 - n := by omega
      clear he hb
      go_enter Tryd.func31, Tryd.ntmps31
      go_wp2_with (go_at_call 40; refine He.out.mono ?_; rintro e w' ⟨rfl, rfl⟩)
      go_ret2
      exact ⟨rfl, rfl⟩
    · rw [if_neg (fun h => hs (in_iff.1 h.2))]
      clear he hb
      go_enter Tryd.func31, Tryd.ntmps31
      go_wp2_with (go_at_call 40; refine He.out.mono ?_; rintro e w' ⟨rfl, rfl⟩)
      all_goals first | (exfalso; omega) | go_ret2
      all_goals exact ⟨rfl, rfl⟩
theorem radd_any (n k : Int) (w : World) (_hk1 : -9223372036854775808 ≤ k) (hk2 : k ≤ 9223372036854775807) : Calls Tryd.prog 32 #[.int .i64 n, .int .i64 k] w fun e w' => e = .returned (addR n k) ∧ w = w' := by
  have he := right_any n w
  unfold addR
  cases hb : inB n
  · rw [hb] at he
    have He := Lib.hid he
    rw [if_neg (by simp)]
    clear he hb
    go_enter Tryd.func32, Tryd.ntmps32
    go_wp2_with (go_at_call 42; refine He.out.mono ?_; rintro e w' ⟨rfl, rfl⟩)
    go_ret2
    exact ⟨rfl, rfl⟩
  · obtain ⟨h1, h2⟩ := in_iff.1 hb
    rw [hb] at he
    have He := Lib.hid he
    by_cases hr : -3652058 ≤ k ∧ k ≤ 3652058
    · obtain ⟨r1, r2⟩ := hr
      have hs := right_any (n + k) w
      cases hc : inB (n + k)
      · rw [hc] at hs
        have Hs := Lib.hid hs
        rw [if_neg (by simp)]
        clear he hb hs hc
        go_enter Tryd.func32, Tryd.ntmps32
        go_wp2_with fail
        refine He.out.mono ?_
        rintro e w' ⟨rfl, rfl⟩
        go_wp2_with fail
        refine Hs.out.mono ?_
        rintro e w' ⟨rfl, rfl⟩
        go_wp2_with fail
        go_ret2
        exact ⟨rfl, rfl⟩
      · rw [hc] at hs
        have Hs := Lib.hid hs
        rw [if_pos ⟨rfl, rfl⟩]
        clear he hb hs hc
        go_enter Tryd.func32, Tryd.ntmps32
        go_wp2_with fail
        refine He.out.mono ?_
        rintro e w' ⟨rfl, rfl⟩
        go_wp2_with fail
        refine Hs.out.mono ?_
        rintro e w' ⟨rfl, rfl⟩
        go_wp2_with fail
        go_ret2
        exact ⟨rfl, rfl⟩
    · rw [if_neg (fun h => hr (by have := in_iff.1 h.2; omega))]
      clear he hb
      go_enter Tryd.func32, Tryd.ntmps32
      go_wp2_with fail
      refine He.out.mono ?_
      rintro e w' ⟨rfl, rfl⟩
      go_wp2_with fail
      all_goals first | (exfalso; omega) | go_ret2
      all_goals exact ⟨rfl, rfl⟩

/-- What Months returns, at a date. -/
def monR (y m d k : Int) : Value :=
  if 0 ≤ place y m + k ∧ place y m + k ≤ 119987 then .tuple #[.int .i64 (num ((place y m + k) / 12 + 1) ((place y m + k) % 12 + 1) (min d (dim ((place y m + k) / 12 + 1) ((place y m + k) % 12 + 1)))), .bool true]
  else .tuple #[.int .i64 0, .bool false]
def monO (n k : Int) (e : Ending) : Prop := (inB n = false ∧ e = .returned (.tuple #[.int .i64 0, .bool false])) ∨ ∃ y m d, Civ n y m d ∧ e = .returned (monR y m d k)

set_option maxHeartbeats 1000000 in
theorem months_any (n k : Int) (w : World) (hT : Tabs w) (_hk1 : -9223372036854775808 ≤ k) (_hk2 : k ≤ 9223372036854775807) : Calls Tryd.prog 19 #[.int .i64 n, .int .i64 k] w fun e w' => monO n k e ∧ w = w' := by
  go_enter Tryd.func19, Tryd.ntmps19
  go_wp2_with fail
  refine (civil_any n w hT).mono ?_
  rintro e w' ⟨⟨hb, rfl⟩ | ⟨y, m, d, hC, rfl⟩, rfl⟩
  · have Hb := Lib.hid hb
    clear hb
    go_wp2_with fail
    go_ret2
    exact ⟨.inl ⟨Hb.out, rfl⟩, rfl⟩
  · obtain ⟨h1, h2, h3, h4, h5, h6, h7⟩ := hC.y
    have HC := Lib.hid hC
    clear hC
    obtain ⟨p, hp⟩ : ∃ p, (y - 1) * 12 + m - 1 = p := ⟨_, rfl⟩
    have hp' : place y m = p := hp
    have Hp := Lib.hid hp'
    have p1 : 0 ≤ p := by omega
    have p2 : p ≤ 119987 := by omega
    clear hp'
    by_cases hr : 0 ≤ p + k ∧ p + k ≤ 119987
    · obtain ⟨r1, r2⟩ := hr
      have t1 : -p ≤ k := by omega
      have t2 : k ≤ 119987 - p := by omega
      obtain ⟨Y, hY⟩ : ∃ Y, (p + k) / 12 + 1 = Y := ⟨_, rfl⟩
      obtain ⟨M, hM⟩ : ∃ M, (p + k) % 12 + 1 = M := ⟨_, rfl⟩
      have y1 : 1 ≤ Y := by omega
      have y2 : Y ≤ 9999 := by omega
      have m1 : 1 ≤ M := by omega
      have m2 : M ≤ 12 := by omega
      have hD := dim_bd Y M
      have HY := Lib.hid hY
      have HM := Lib.hid hM
      obtain ⟨D, hDe⟩ : ∃ D, dim Y M = D := ⟨_, rfl⟩
      have HD := Lib.hid hDe
      rw [hDe] at hD
      clear hDe
      have hm1 : 1 ≤ min d D := by omega
      have hm2 : min d D ≤ 100 := by omega
      go_wp2_with (first | (go_at_call 39; refine (days_any Y M (by omega) (by omega) m1 m2 _ hT).mono ?_; rintro e w' ⟨rfl, rfl⟩; rw [HD.out]) | (go_at_call 35; refine (number_any Y M (min d D) y1 y2 m1 m2 hm1 hm2 _ hT).mono ?_; rintro e w' ⟨rfl, rfl⟩))
      go_ret2
      exact ⟨.inr ⟨y, m, d, HC.out, by unfold monR; rw [Hp.out, if_pos ⟨r1, r2⟩, HY.out, HM.out, HD.out]; rfl⟩, rfl⟩
    · have hR : monR y m d k = .tuple #[.int .i64 0, .bool false] := by unfold monR; rw [Hp.out, if_neg hr]
      have HR := Lib.hid hR
      clear hR
      go_wp2_with fail
      all_goals first | (exfalso; omega) | go_ret2
      all_goals exact ⟨.inr ⟨y, m, d, HC.out, by rw [HR.out]; rfl⟩, rfl⟩

set_option maxHeartbeats 1000000 in
theorem rmonths_any (n k : Int) (w : World) (hk1 : -9223372036854775808 ≤ k) (hk2 : k ≤ 9223372036854775807) : Calls Tryd.prog 20 #[.int .i64 n, .int .i64 k] w fun e w' => monO n k e ∧ w = w' := by
  go_enter Tryd.func20, Tryd.ntmps20
  go_wp2_with fail
  refine (rcivil_any n w).mono ?_
  rintro e w' ⟨⟨hb, rfl⟩ | ⟨y, m, d, hC, rfl⟩, rfl⟩
  · have Hb := Lib.hid hb
    clear hb
    go_wp2_with fail
    go_ret2
    exact ⟨.inl ⟨Hb.out, rfl⟩, rfl⟩
  · obtain ⟨h1, h2, h3, h4, h5, h6, h7⟩ := hC.y
    have HC := Lib.hid hC
    clear hC
    obtain ⟨p, hp⟩ : ∃ p, place y m = p := ⟨_, rfl⟩
    have Hp := Lib.hid hp
    have p0 : 12 * y + m - 1 = p + 12 := by unfold place at hp; omega
    have p1 : 0 ≤ p := by omega
    have p2 : p ≤ 119987 := by omega
    clear hp
    by_cases hr : 0 ≤ p + k ∧ p + k ≤ 119987
    · obtain ⟨r1, r2⟩ := hr
      have t1 : -120000 ≤ k := by omega
      have t2 : k ≤ 120000 := by omega
      have t3 : 12 * y + m - 1 + k = p + k + 12 := by omega
      obtain ⟨Y, hY⟩ : ∃ Y, (p + k) / 12 + 1 = Y := ⟨_, rfl⟩
      obtain ⟨M, hM⟩ : ∃ M, (p + k) % 12 + 1 = M := ⟨_, rfl⟩
      have y1 : 1 ≤ Y := by omega
      have y2 : Y ≤ 9999 := by omega
      have m1 : 1 ≤ M := by omega
      have m2 : M ≤ 12 := by omega
      have e1 : (12 * y + m - 1 + k) / 12 = Y := by omega
      have e2 : (12 * y + m - 1 + k) % 12 + 1 = M := by omega
      have hD := dim_bd Y M
      have HY := Lib.hid hY
      have HM := Lib.hid hM
      obtain ⟨D, hDe⟩ : ∃ D, dim Y M = D := ⟨_, rfl⟩
      have HD := Lib.hid hDe
      rw [hDe] at hD
      have hm1 : 1 ≤ min d D := by omega
      have hm2 : min d D ≤ 100 := by omega
      have hn := rnum_any Y M (min d D) w
      have hv : numR Y M (min d D) = .tuple #[.int .i64 (num Y M (min d D)), .bool true] := by unfold numR; rw [if_pos (vld_iff.2 ⟨y1, y2, m1, m2, hm1, by rw [hDe]; omega⟩)]
      rw [hv] at hn
      have Hn := Lib.hid hn
      have a1 : 12 ≤ 12 * y + m - 1 + k := by omega
      have a2 : 12 * y + m - 1 + k < 120000 := by omega
      clear hDe hn hv hY hM t3 p0
      go_wp2_with (first | (go_at_call 38; refine (rdays_any Y M (by omega) (by omega) m1 m2 _).mono ?_; rintro e w' ⟨rfl, rfl⟩; rw [HD.out]) | (go_at_call 15; refine Hn.out.mono ?_; rintro e w' ⟨rfl, rfl⟩))
      go_ret2
      exact ⟨.inr ⟨y, m, d, HC.out, by unfold monR; rw [Hp.out, if_pos ⟨r1, r2⟩, HY.out, HM.out, HD.out]; rfl⟩, rfl⟩
    · have hR : monR y m d k = .tuple #[.int .i64 0, .bool false] := by unfold monR; rw [Hp.out, if_neg hr]
      have HR := Lib.hid hR
      clear hR
      by_cases hk : -120000 ≤ k ∧ k ≤ 120000
      · obtain ⟨k1, k2⟩ := hk
        have a1 : ¬ (12 ≤ 12 * y + m - 1 + k ∧ 12 * y + m - 1 + k < 120000) := by omega
        go_wp2_with fail
        all_goals first | (exfalso; omega) | go_ret2
        all_goals exact ⟨.inr ⟨y, m, d, HC.out, by rw [HR.out]; rfl⟩, rfl⟩
      · go_wp2_with fail
        all_goals first | (exfalso; omega) | go_ret2
        all_goals exact ⟨.inr ⟨y, m, d, HC.out, by rw [HR.out]; rfl⟩, rfl⟩

theorem tmod_mod (n m : Int) : (n.tmod m + m) % m = n % m := by
  rw [Int.add_emod_right]
  have h := Int.tmod_add_mul_tdiv n m
  conv => rhs; rw [← h]
  rw [Int.add_mul_emod_self_left]
theorem mod_any (n m : Int) (w : World) (hm : 0 < m) (hb : m ≤ 1099511627776) (_hn : -9223372036854775808 ≤ n) (_hn2 : n ≤ 9223372036854775807) :
    Calls Tryd.prog 24 #[.int .i64 n, .int .i64 m] w fun e w' => e = .returned (.int .i64 (n % m)) ∧ w = w' := by
  have h1 := Int.lt_tmod_of_pos n hm
  have h2 := Int.tmod_lt_of_pos n hm
  have h3 := tmod_mod n m
  have H3 := Lib.hid h3
  clear h3
  have h4 : 1 ≤ m := by omega
  have h5 : 0 ≤ n.tmod m + m := by omega
  have h7 : 0 ≤ (n.tmod m + m) % m := Int.emod_nonneg _ (by omega)
  have h8 : (n.tmod m + m) % m < m := Int.emod_lt_of_pos _ (by omega)
  have hz : (m == 0) = false := by simp; omega
  go_enter Tryd.func24, Tryd.ntmps24
  go_wp2
  go_ret
  refine ⟨?_, rfl⟩
  exact congrArg (fun x => Ending.returned (.int .i64 x)) H3.out
end Go.Proofs.YtmpfgdpicbpedaaDoor
