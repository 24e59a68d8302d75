/-
  Numbers and dates: Valid, Number, Civil, Weekday, Add, Months of both sides. Conditions: the package variables read as the text lays them.
-/
import Derived.Test.YtmpfgdpicbpedaaDoorNum
namespace Go.Proofs.YtmpfgdpicbpedaaDoor
open Go.RowKit

/-- The date of a number. -/
def Civ (n y m d : Int) : Prop := vldB y m d = true ∧ num y m d = n
theorem Civ.uniq {n y m d z k e : Int} (h : Civ n y m d) (g : Civ n z k e) : y = z ∧ m = k ∧ d = e := num_inj h.1 g.1 (h.2.trans g.2.symm)
theorem Civ.bd {n y m d : Int} (h : Civ n y m d) : 0 ≤ n ∧ n ≤ 3652058 := by
  have := num_bd h.1
  rw [h.2] at this
  exact this
theorem Civ.y {n y m d : Int} (h : Civ n y m d) : 1 ≤ y ∧ y ≤ 9999 ∧ 1 ≤ m ∧ m ≤ 12 ∧ 1 ≤ d ∧ d ≤ dim y m ∧ d ≤ 31 := by
  obtain ⟨h1, h2, h3, h4, h5, h6⟩ := vld_iff.1 h.1
  have := dim_bd y m
  omega

theorem vld_no {y m d : Int} (h : ¬ (1 ≤ y ∧ y ≤ 9999 ∧ 1 ≤ m ∧ m ≤ 12)) : vldB y m d = false := by
  unfold vldB
  rw [decide_eq_false_iff_not]
  omega
theorem vld_low {y m d : Int} (h : ¬ 1 ≤ d) : vldB y m d = false := by
  unfold vldB
  rw [decide_eq_false_iff_not]
  omega
theorem vld_yes {y m d : Int} (h : 1 ≤ y ∧ y ≤ 9999 ∧ 1 ≤ m ∧ m ≤ 12) (hd : 1 ≤ d) : vldB y m d = decide (d ≤ dim y m) := by
  unfold vldB
  rw [decide_eq_decide]
  omega

set_option maxHeartbeats 1000000 in
theorem valid_any (y m d : Int) (w : World) (hT : Tabs w) : Calls Tryd.prog 16 #[.int .i64 y, .int .i64 m, .int .i64 d] w fun e w' => e = .returned (.bool (vldB y m d)) ∧ w = w' := by
  by_cases hv : 1 ≤ y ∧ y ≤ 9999 ∧ 1 ≤ m ∧ m ≤ 12
  · obtain ⟨a, b, c, f⟩ := hv
    by_cases hd : 1 ≤ d
    · rw [vld_yes ⟨a, b, c, f⟩ hd]
      have hD := dim_bd y m
      go_enter Tryd.func16, Tryd.ntmps16
      go_wp2_with (go_at_call 39; refine (days_any y m (by omega) (by omega) (by omega) (by omega) _ hT).mono ?_; rintro e w' ⟨rfl, rfl⟩)
      all_goals go_ret
      all_goals first | exact ⟨rfl, rfl⟩ | exact ⟨ret_bool (by simp; try omega), rfl⟩
    · rw [vld_low hd]
      go_enter Tryd.func16, Tryd.ntmps16
      go_wp2_with fail
      all_goals go_ret
      all_goals first | exact ⟨rfl, rfl⟩ | exact ⟨ret_bool (by simp; try omega), rfl⟩
  · rw [vld_no hv]
    go_enter Tryd.func16, Tryd.ntmps16
    go_wp2_with fail
    all_goals first | (exfalso; omega) | go_ret
    all_goals first | exact ⟨rfl, rfl⟩ | exact ⟨ret_bool (by simp; try omega), rfl⟩

set_option maxHeartbeats 1000000 in
theorem rvalid_any (y m d : Int) (w : World) : Calls Tryd.prog 36 #[.int .i64 y, .int .i64 m, .int .i64 d] w fun e w' => e = .returned (.bool (vldB y m d)) ∧ w = w' := by
  by_cases hv : 1 ≤ y ∧ y ≤ 9999 ∧ 1 ≤ m ∧ m ≤ 12
  · obtain ⟨a, b, c, f⟩ := hv
    by_cases hd : 1 ≤ d
    · rw [vld_yes ⟨a, b, c, f⟩ hd]
      have hD := dim_bd y m
      go_enter Tryd.func36, Tryd.ntmps36
      go_wp2_with (go_at_call 38; refine (rdays_any y m (by omega) (by omega) (by omega) (by omega) _).mono ?_; rintro e w' ⟨rfl, rfl⟩)
      all_goals go_ret
      all_goals first | exact ⟨rfl, rfl⟩ | exact ⟨ret_bool (by simp; try omega), rfl⟩
    · rw [vld_low hd]
      go_enter Tryd.func36, Tryd.ntmps36
      go_wp2_with fail
      all_goals go_ret
      all_goals first | exact ⟨rfl, rfl⟩ | exact ⟨ret_bool (by simp; try omega), rfl⟩
  · rw [vld_no hv]
    go_enter Tryd.func36, Tryd.ntmps36
    go_wp2_with fail
    all_goals first | (exfalso; omega) | go_ret
    all_goals first | exact ⟨rfl, rfl⟩ | exact ⟨ret_bool (by simp; try omega), rfl⟩

/-- What Number returns. -/
def numR (y m d : Int) : Value := if vldB y m d = true then .tuple #[.int .i64 (num y m d), .bool true] else .tuple #[.int .i64 0, .bool false]
theorem num_any (y m d : Int) (w : World) (hT : Tabs w) : Calls Tryd.prog 14 #[.int .i64 y, .int .i64 m, .int .i64 d] w fun e w' => e = .returned (numR y m d) ∧ w = w' := by
  have hv := valid_any y m d w hT
  cases hb : vldB y m d
  · rw [hb] at hv
    have Hv := Lib.hid hv
    have hr : numR y m d = .tuple #[.int .i64 0, .bool false] := by unfold numR; rw [hb]; rfl
    rw [hr]
    clear hv hb hr
    go_enter Tryd.func14, Tryd.ntmps14
    go_wp2_with (go_at_call 16; refine Hv.out.mono ?_; rintro e w' ⟨rfl, rfl⟩)
    go_ret2
    exact ⟨rfl, rfl⟩
  · obtain ⟨h1, h2, h3, h4, h5, h6⟩ := vld_iff.1 hb
    have hD := dim_bd y m
    rw [hb] at hv
    have Hv := Lib.hid hv
    have hr : numR y m d = .tuple #[.int .i64 (num y m d), .bool true] := by unfold numR; rw [hb]; rfl
    rw [hr]
    clear hv hb hr
    go_enter Tryd.func14, Tryd.ntmps14
    go_wp2_with (first | (go_at_call 16; refine Hv.out.mono ?_; rintro e w' ⟨rfl, rfl⟩) | (go_at_call 35; refine (number_any y m d h1 h2 h3 h4 h5 (by omega) _ hT).mono ?_; rintro e w' ⟨rfl, rfl⟩))
    go_ret2
    exact ⟨rfl, rfl⟩
theorem rnum_any (y m d : Int) (w : World) : Calls Tryd.prog 15 #[.int .i64 y, .int .i64 m, .int .i64 d] w fun e w' => e = .returned (numR y m d) ∧ w = w' := by
  have hv := rvalid_any y m d w
  cases hb : vldB y m d
  · rw [hb] at hv
    have Hv := Lib.hid hv
    have hr : numR y m d = .tuple #[.int .i64 0, .bool false] := by unfold numR; rw [hb]; rfl
    rw [hr]
    clear hv hb hr
    go_enter Tryd.func15, Tryd.ntmps15
    go_wp2_with (go_at_call 36; refine Hv.out.mono ?_; rintro e w' ⟨rfl, rfl⟩)
    go_ret2
    exact ⟨rfl, rfl⟩
  · obtain ⟨h1, h2, h3, h4, h5, h6⟩ := vld_iff.1 hb
    have hD := dim_bd y m
    have hbf := bef_bd y h1 (by omega)
    rw [hb] at hv
    have Hv := Lib.hid hv
    have hr : numR y m d = .tuple #[.int .i64 (num y m d), .bool true] := by unfold numR; rw [hb]; rfl
    rw [hr]
    clear hv hb hr
    go_enter Tryd.func15, Tryd.ntmps15
    go_wp2_with (first | (go_at_call 36; refine Hv.out.mono ?_; rintro e w' ⟨rfl, rfl⟩) | (go_at_call 37; refine (first_any y (by omega) (by omega) _).mono ?_; rintro e w' ⟨rfl, rfl⟩))
    go_loop [9, 10] (fun n k => ∃ i : Int, 1 ≤ i ∧ i ≤ m ∧ k = .int .i64 i ∧ n = .int .i64 (bef y + d - 1 + cum y i)) (fun _ k => (m - intOf k).toNat)
    case atStart => exact ⟨1, by omega, h3, rfl, by rw [cum_one]; simp⟩
    case round =>
      obtain ⟨i, i1, i2, rfl, rfl⟩ := hrel
      have hc := cum_bd y i i1 (by omega)
      by_cases hlt : i < m
      · have hs := cum_succ y i i1 (by omega)
        have hd := dim_bd y i
        have Hs := Lib.hid hs
        clear hs
        go_wp2_with (go_at_call 38; refine (rdays_any y i (by omega) (by omega) i1 (by omega) _).mono ?_; rintro e w' ⟨rfl, rfl⟩)
        go_round
        case rel => exact ⟨i + 1, by omega, by omega, rfl, by rw [Hs.out]; go_num⟩
        case measure => simp [intOf]; omega
      · have hi : i = m := by omega
        subst hi
        go_wp2
        go_ret2
        exact ⟨by unfold num; simp; try omega, rfl⟩

/-- A number of a date. -/
def inB (n : Int) : Bool := decide (0 ≤ n ∧ n ≤ 3652058)
theorem exists_any (n : Int) (w : World) : Calls Tryd.prog 40 #[.int .i64 n] w fun e w' => e = .returned (.bool (inB n)) ∧ w = w' := by
  go_enter Tryd.func40, Tryd.ntmps40
  go_wp2_with fail
  all_goals go_ret
  all_goals exact ⟨ret_bool (by simp [inB]; try omega), rfl⟩
theorem right_any (n : Int) (w : World) : Calls Tryd.prog 42 #[.int .i64 n] w fun e w' => e = .returned (.bool (inB n)) ∧ w = w' := by
  go_enter Tryd.func42, Tryd.ntmps42
  go_wp2_with fail
  all_goals go_ret
  all_goals exact ⟨ret_bool (by simp [inB]; try omega), rfl⟩

/-- What Civil returns. -/
def civO (n : Int) (e : Ending) : Prop := (inB n = false ∧ e = .returned (.tuple #[.int .i64 0, .int .i64 0, .int .i64 0, .bool false])) ∨ ∃ y m d, Civ n y m d ∧ e = .returned (.tuple #[.int .i64 y, .int .i64 m, .int .i64 d, .bool true])
theorem in_iff {n : Int} : inB n = true ↔ 0 ≤ n ∧ n ≤ 3652058 := by simp [inB]

set_option maxHeartbeats 1000000 in
theorem civil_any (n : Int) (w : World) (hT : Tabs w) : Calls Tryd.prog 17 #[.int .i64 n] w fun e w' => civO n e ∧ w = w' := by
  have he := exists_any n w
  cases hb : inB n
  · rw [hb] at he
    have He := Lib.hid he
    have Hb := Lib.hid hb
    clear he hb
    go_enter Tryd.func17, Tryd.ntmps17
    go_wp2_with (go_at_call 40; refine He.out.mono ?_; rintro e w' ⟨rfl, rfl⟩)
    exact bodyPost_ret (v := .tuple #[.int .i64 0, .int .i64 0, .int .i64 0, .bool false]) (by simp [results, Tryd.results17, go_sem]) rfl ⟨.inl ⟨Hb.out, rfl⟩, rfl⟩
  · obtain ⟨h1, h2⟩ := in_iff.1 hb
    rw [hb] at he
    have He := Lib.hid he
    have hg := bef_guess n h1
    clear he hb
    go_enter Tryd.func17, Tryd.ntmps17
    go_wp2_with (go_at_call 40; refine He.out.mono ?_; rintro e w' ⟨rfl, rfl⟩)
    go_loop [2] (fun t => ∃ y : Int, 1 ≤ y ∧ y ≤ 9999 ∧ bef y ≤ n ∧ t = .int .i64 y) (fun t => (9999 - intOf t).toNat)
    case atStart => exact ⟨_, by omega, by omega, hg, rfl⟩
    case round =>
      obtain ⟨y, hy1, hy2, hy3, rfl⟩ := hrel
      clear hg
      by_cases hc : y < 9999 ∧ bef (y + 1) ≤ n
      · obtain ⟨hlt, hd⟩ := hc
        go_wp2_with (go_at_call 41; refine (before_any _ (by omega) (by omega) _).mono ?_; rintro e w' ⟨rfl, rfl⟩)
        go_round
        case rel => exact ⟨y + 1, by omega, by omega, hd, rfl⟩
        case measure => simp [intOf]; omega
      · have hz : n < bef (y + 1) := by
          by_cases e : y = 9999
          · subst e
            have := bef_max
            show n < bef 10000
            omega
          · omega
        have hb := bef_bd y hy1 (by omega)
        have hs := bef_succ y
        have hl := lp_01 y
        have hb2 : bef y + 365 + lp y = bef (y + 1) := hs.symm
        have hn : n - bef y < 365 + lp y := by omega
        have hn0 : 0 ≤ n - bef y := by omega
        have hz' : ¬ bef (y + 1) ≤ n := by omega
        clear hc hs hb2 hz
        by_cases hlt : y < 9999
        all_goals
          go_wp2_with (go_at_call 41; refine (before_any _ (by omega) (by omega) _).mono ?_; rintro e w' ⟨rfl, rfl⟩)
          go_loop [3, 4] (fun k r => ∃ m : Int, 1 ≤ m ∧ m ≤ 12 ∧ k = .int .i64 m ∧ 0 ≤ n - bef y - cum y m ∧ r = .int .i64 (n - bef y - cum y m + 1)) (fun k _ => (12 - intOf k).toNat)
          case atStart => exact ⟨1, by omega, by omega, rfl, by rw [cum_one]; omega, by rw [cum_one]; simp⟩
          case round =>
            obtain ⟨m, hm1, hm2, rfl, hr, rfl⟩ := hrel
            have cb := cum_bd y m hm1 (by omega)
            have db := dim_bd y m
            have cs := cum_succ y m hm1 hm2
            by_cases hc : dim y m < n - bef y - cum y m + 1
            · have hm : m < 12 := by
                rcases (show m < 12 ∨ m = 12 by omega) with h | h
                · exact h
                · subst h
                  have c13 := cum_13 y
                  have : cum y (12 + 1) = cum y 13 := rfl
                  omega
              have Cs := Lib.hid cs
              clear cs
              go_wp2_with (go_at_call 39; refine (days_any y m (by omega) (by omega) hm1 hm2 _ hT).mono ?_; rintro e w' ⟨rfl, rfl⟩)
              go_round
              case rel => exact ⟨m + 1, by omega, by omega, rfl, by rw [Cs.out]; omega, by rw [Cs.out]; go_num⟩
              case measure => simp [intOf]; omega
            · have hv : Civ n y m (n - bef y - cum y m + 1) := ⟨vld_iff.2 ⟨hy1, hy2, hm1, hm2, by omega, by omega⟩, by unfold num; omega⟩
              have Hv := Lib.hid hv
              clear hv cs
              go_wp2_with (go_at_call 39; refine (days_any y m (by omega) (by omega) hm1 hm2 _ hT).mono ?_; rintro e w' ⟨rfl, rfl⟩)
              exact bodyPost_ret (v := .tuple #[.int .i64 y, .int .i64 m, .int .i64 (n - bef y - cum y m + 1), .bool true]) (by simp [results, Tryd.results17, go_sem]) rfl ⟨.inr ⟨y, m, _, Hv.out, rfl⟩, rfl⟩

set_option maxHeartbeats 1000000 in
theorem rcivil_any (n : Int) (w : World) : Calls Tryd.prog 18 #[.int .i64 n] w fun e w' => civO n e ∧ w = w' := by
  have he := right_any n w
  cases hb : inB n
  · rw [hb] at he
    have He := Lib.hid he
    have Hb := Lib.hid hb
    clear he hb
    go_enter Tryd.func18, Tryd.ntmps18
    go_wp2_with (go_at_call 42; refine He.out.mono ?_; rintro e w' ⟨rfl, rfl⟩)
    exact bodyPost_ret (v := .tuple #[.int .i64 0, .int .i64 0, .int .i64 0, .bool false]) (by simp [results, Tryd.results18, go_sem]) rfl ⟨.inl ⟨Hb.out, rfl⟩, rfl⟩
  · obtain ⟨h1, h2⟩ := in_iff.1 hb
    rw [hb] at he
    have He := Lib.hid he
    clear he hb
    have g1 : bef 1 ≤ n := by rw [bef_one]; exact h1
    have g2 : n < bef (9999 + 1) := by show n < bef 10000; rw [bef_max]; omega
    go_enter Tryd.func18, Tryd.ntmps18
    go_wp2_with (go_at_call 42; refine He.out.mono ?_; rintro e w' ⟨rfl, rfl⟩)
    go_loop [6, 7] (fun a b => ∃ y z : Int, 1 ≤ y ∧ y ≤ z ∧ z ≤ 9999 ∧ bef y ≤ n ∧ n < bef (z + 1) ∧ a = .int .i64 y ∧ b = .int .i64 z) (fun a b => (intOf b - intOf a).toNat)
    case atStart => exact ⟨1, 9999, by omega, by omega, by omega, g1, g2, rfl, rfl⟩
    case round =>
      obtain ⟨y, z, hy1, hyz, hz2, hy3, hz3, rfl, rfl⟩ := hrel
      clear g1 g2
      by_cases hlt : y < z
      · obtain ⟨q, hq⟩ : ∃ q, (y + z + 1) / 2 = q := ⟨_, rfl⟩
        have q1 : y < q := by omega
        have q2 : q ≤ z := by omega
        by_cases hc : bef q ≤ n
        · go_wp2_with (go_at_call 37; rw [hq]; refine (first_any q (by omega) (by omega) _).mono ?_; rintro e w' ⟨rfl, rfl⟩)
          go_round
          case rel => exact ⟨q, z, by omega, by omega, by omega, hc, hz3, rfl, rfl⟩
          case measure => simp [intOf]; omega
        · go_wp2_with (go_at_call 37; rw [hq]; refine (first_any q (by omega) (by omega) _).mono ?_; rintro e w' ⟨rfl, rfl⟩)
          go_round
          case rel => exact ⟨y, q - 1, by omega, by omega, by omega, hy3, by rw [Int.sub_add_cancel]; omega, rfl, rfl⟩
          case measure => simp [intOf]; omega
      · obtain rfl : y = z := by omega
        have hb := bef_bd y hy1 (by omega)
        have hs := bef_succ y
        have hl := lp_01 y
        have hb2 : bef y + 365 + lp y = bef (y + 1) := hs.symm
        have hn : n - bef y < 365 + lp y := by omega
        have hn0 : 0 ≤ n - bef y := by omega
        clear hs hb2 hz3
        go_wp2_with (go_at_call 37; refine (first_any y (by omega) (by omega) _).mono ?_; rintro e w' ⟨rfl, rfl⟩)
        go_loop [9, 10] (fun r k => ∃ m : Int, 1 ≤ m ∧ m ≤ 12 ∧ k = .int .i64 m ∧ 0 ≤ n - bef y - cum y m ∧ r = .int .i64 (n - bef y - cum y m)) (fun _ k => (12 - intOf k).toNat)
        case atStart => exact ⟨1, by omega, by omega, rfl, by rw [cum_one]; omega, by rw [cum_one]; simp⟩
        case round =>
          obtain ⟨m, hm1, hm2, rfl, hr, rfl⟩ := hrel
          have cb := cum_bd y m hm1 (by omega)
          have db := dim_bd y m
          have cs := cum_succ y m hm1 hm2
          by_cases hc : dim y m ≤ n - bef y - cum y m
          · have hm : m < 12 := by
              rcases (show m < 12 ∨ m = 12 by omega) with h | h
              · exact h
              · subst h
                have c13 := cum_13 y
                have : cum y (12 + 1) = cum y 13 := rfl
                omega
            have Cs := Lib.hid cs
            clear cs
            go_wp2_with (go_at_call 38; refine (rdays_any y m (by omega) (by omega) hm1 hm2 _).mono ?_; rintro e w' ⟨rfl, rfl⟩)
            go_round
            case rel => exact ⟨m + 1, by omega, by omega, rfl, by rw [Cs.out]; omega, by rw [Cs.out]; go_num⟩
            case measure => simp [intOf]; omega
          · have hv : Civ n y m (n - bef y - cum y m + 1) := ⟨vld_iff.2 ⟨hy1, by omega, hm1, hm2, by omega, by omega⟩, by unfold num; omega⟩
            have Hv := Lib.hid hv
            clear hv cs
            go_wp2_with (go_at_call 38; refine (rdays_any y m (by omega) (by omega) hm1 hm2 _).mono ?_; rintro e w' ⟨rfl, rfl⟩)
            exact bodyPost_ret (v := .tuple #[.int .i64 y, .int .i64 m, .int .i64 (n - bef y - cum y m + 1), .bool true]) (by simp [results, Tryd.results18, go_sem]) rfl ⟨.inr ⟨y, m, _, Hv.out, rfl⟩, rfl⟩
end Go.Proofs.YtmpfgdpicbpedaaDoor
