/-
  Strings whose bytes belong to a class; small functions of both sides. Printed by wip/chr.py. Conditions: the strings are within reach.
-/
import Derived.Test.YtgnjakaamgeibaaGreatDoorCls
import Derived.Lib.Bytealg
namespace Go.Proofs.YtgnjakaamgeibaaGreatDoor
open Go.RowKit Go.Shelf
attribute [local go_sem] Oper.semAt_some
theorem rbelongs_any (c : UInt8) (k : Int) (w : World) : Calls Tryz.prog 81 #[.int .u8 c.toNat, .int .i64 k] w fun e w' => e = .returned (.bool (clsB c != 0 && insB (clsB c) k)) ∧ w = w' := by
  go_enter Tryz.func81, Tryz.ntmps81
  go_wp2_with fail
  refine (rclass_any c _).mono ?_
  rintro e w1 ⟨rfl, rfl⟩
  by_cases hc : clsB c = 0
  · rw [hc]
    go_wp2_with fail
    go_ret
    have hf : (clsB c != 0 && insB (clsB c) k) = false := by rw [hc]; rfl
    exact ⟨by rw [hf]; rfl, rfl⟩
  · have h1 : (0 : Int) < (clsB c : Int) := by omega
    have h2 : (clsB c != 0) = true := by simpa using hc
    have H2 := Lib.hid h2
    clear hc h2
    go_wp2_with fail
    refine (contained_any (clsB c) k _).mono ?_
    rintro e w1 ⟨rfl, rfl⟩
    go_wp2_with fail
    go_ret
    exact ⟨by rw [H2.out, Bool.true_and]; rfl, rfl⟩
set_option maxHeartbeats 1000000 in
theorem rall_any (s : ByteArray) (hs : s.size ≤ 9223372036854775807) (kk : Int) (w : World) : Calls Tryz.prog 68 #[.string s, .int .i64 kk] w fun e w' => e = .returned (.bool (allR s.data.toList kk)) ∧ w = w' := by
  have hl := size_list s
  go_enter Tryz.func68, Tryz.ntmps68
  go_wp2_with fail
  go_loop [5] (fun i => ∃ k : Nat, i = .int .i64 k ∧ k ≤ s.size ∧ Hid ((s.data.toList.take k).all (fun c => clsB c != 0 && insB (clsB c) kk) = true)) (fun i => s.size - (intOf i).toNat)
  case atStart => exact ⟨0, rfl, Nat.zero_le _, by show _ = _; rfl⟩
  case round =>
    obtain ⟨k, rfl, hk, ha⟩ := hrel
    have Hl := Lib.hid hl
    clear hl
    by_cases hlt : k < s.size
    · have j3 : k < s.data.toList.length := by have := Hl.out; omega
      have hge : s.data.toList[k] = s[k] := rfl
      have hst := all_take (P := fun c => clsB c != 0 && insB (clsB c) kk) j3
      rw [ha.out, hge] at hst
      have hno := all_no (P := fun c => clsB c != 0 && insB (clsB c) kk) j3
      rw [hge] at hno
      have Hst := Lib.hid hst
      have Hno := Lib.hid hno
      clear hst hno hge ha
      go_wp2_with fail
      refine (rbelongs_any s[k] kk _).mono ?_
      rintro e w1 ⟨rfl, rfl⟩
      cases hc : clsB s[k] != 0 && insB (clsB s[k]) kk
      · have hr : allR s.data.toList kk = false := Hno.out hc
        have Hr := Lib.hid hr
        clear hr hc
        go_wp2_with fail
        go_ret
        exact ⟨by rw [Hr.out]; rfl, rfl⟩
      · have hr := Hst.out
        rw [Bool.true_and, hc] at hr
        have Hr := Lib.hid hr
        clear hr hc
        go_wp2_with fail
        go_round
        case rel => exact ⟨k + 1, by go_num, hlt, Hr⟩
        case measure => simp [intOf]; omega
    · have hr : allR s.data.toList kk = true := by
        have := ha.out
        rw [List.take_of_length_le (by have := Hl.out; omega)] at this
        exact this
      have Hr := Lib.hid hr
      have hend : ¬ ((k : Int) < (s.size : Int)) := by omega
      clear hr ha hlt
      go_wp2_with fail
      go_ret
      exact ⟨by rw [Hr.out]; rfl, rfl⟩
theorem risText_any (s : ByteArray) (hs : s.size ≤ 9223372036854775807) (w : World) : Calls Tryz.prog 43 #[.string s] w fun e w' => e = .returned (.bool (textB s.data.toList)) ∧ w = w' := by
  have hl := size_list s
  have ht : textB s.data.toList = (decide (s.size ≤ 200) && allR s.data.toList 7) := by unfold textB; rw [hl, allR_seven]
  rw [ht]
  clear ht hl
  by_cases h : s.size ≤ 200
  · rw [decide_eq_true h, Bool.true_and]
    have h2 : (s.size : Int) ≤ 200 := by omega
    go_enter Tryz.func43, Tryz.ntmps43
    go_wp2_with fail
    refine (rall_any s hs 7 _).mono ?_
    rintro e w1 ⟨rfl, rfl⟩
    go_wp2_with fail
    go_ret
    exact ⟨rfl, rfl⟩
  · rw [decide_eq_false h, Bool.false_and]
    have h2 : ¬ (s.size : Int) ≤ 200 := by omega
    go_enter Tryz.func43, Tryz.ntmps43
    go_wp2_with fail
    go_ret
    exact ⟨rfl, rfl⟩
theorem u8_eq (c d : UInt8) : (c == d) = decide (c.toNat = d.toNat) := by rw [Bool.eq_iff_iff, beq_iff_eq, decide_eq_true_iff, UInt8.toNat_inj]
theorem spc_nat (c : UInt8) : spc c = (decide (c.toNat = 92) || decide (c.toNat = 123) || decide (c.toNat = 125) || decide (c.toNat = 43) || decide (c.toNat = 42)) := by
  unfold spc
  rw [u8_eq, u8_eq, u8_eq, u8_eq, u8_eq]
  rfl
theorem nat_u8 (c : UInt8) : ((c.toNat : Int)).toNat.toUInt8 = c := by
  rw [Int.toNat_natCast]
  exact UInt8.ofNat_toNat
set_option maxRecDepth 100000 in
theorem spc_index (c : UInt8) : decide (0 ≤ Lib.indexByte [92, 123, 125, 43, 42] c) = spc c := by
  have key : ∀ n : Fin 256, decide (0 ≤ Lib.indexByte [92, 123, 125, 43, 42] (UInt8.ofNat n.1)) = spc (UInt8.ofNat n.1) := by decide
  have := key ⟨c.toNat, c.toNat_lt⟩
  rw [show UInt8.ofNat c.toNat = c from UInt8.ofNat_toNat] at this
  exact this
theorem special_any (c : UInt8) (w : World) : Calls Tryz.prog 84 #[.int .u8 c.toNat] w fun e w' => e = .returned (.bool (spc c)) ∧ w = w' := by
  have hi := Tryz.strings_IndexByte ⟨#[92, 123, 125, 43, 42]⟩ c.toNat
  rw [nat_u8, show (⟨#[92, 123, 125, 43, 42]⟩ : ByteArray).data.toList = [92, 123, 125, 43, 42] from rfl] at hi
  rw [← spc_index c]
  have hge := Lib.indexByte_ge [92, 123, 125, 43, 42] c
  generalize Lib.indexByte [92, 123, 125, 43, 42] c = j at hi hge ⊢
  have Hi := Lib.hid hi
  clear hi
  go_enter Tryz.func84, Tryz.ntmps84
  go_wp2_with fail
  refine (Hi.out _).mono ?_
  rintro e w1 ⟨rfl, rfl⟩
  go_wp2_with fail
  go_ret
  exact ⟨rfl, rfl⟩
set_option maxHeartbeats 1000000 in
theorem rspecial_any (c : UInt8) (w : World) : Calls Tryz.prog 48 #[.int .u8 c.toNat] w fun e w' => e = .returned (.bool (spc c)) ∧ w = w' := by
  rw [spc_nat]
  have hn := c.toNat_lt
  generalize c.toNat = n at hn ⊢
  go_enter Tryz.func48, Tryz.ntmps48
  go_wp2_with fail
  all_goals go_ret
  all_goals exact ⟨ret_bool (by rw [Bool.eq_iff_iff]; simp; try omega), rfl⟩
theorem mod_any (n m : Int) (w : World) (hm : 0 < m) (hb : m ≤ 1099511627776) (_hn : -9223372036854775808 ≤ n) (_hn2 : n ≤ 9223372036854775807) :
    Calls Tryz.prog 27 #[.int .i64 n, .int .i64 m] w fun e w' => e = .returned (.int .i64 (n % m)) ∧ w = w' := by
  have h1 := Int.lt_tmod_of_pos n hm
  have h2 := Int.tmod_lt_of_pos n hm
  have h3 : n % m = if n.tmod m < 0 then n.tmod m + m else n.tmod m := by
    have e1 := Int.emod_add_mul_ediv n m
    have e2 := Int.tmod_add_mul_tdiv n m
    have e3 := Int.emod_nonneg n (show m ≠ 0 by omega)
    have e4 := Int.emod_lt_of_pos n hm
    have e5 : n.tmod m - n % m = m * (n / m - n.tdiv m) := by rw [Int.mul_sub]; omega
    generalize n / m - n.tdiv m = q at e5
    have q1 : q = 0 ∨ q = -1 ∨ 1 ≤ q ∨ q ≤ -2 := by omega
    split
    · rcases q1 with rfl | rfl | h | h
      · simp at e5; omega
      · rw [Int.mul_neg, Int.mul_one] at e5; omega
      · have := Int.mul_le_mul_of_nonneg_left h (show 0 ≤ m by omega); rw [Int.mul_one] at this; omega
      · have := Int.mul_le_mul_of_nonneg_left h (show 0 ≤ m by omega); omega
    · rcases q1 with rfl | rfl | h | h
      · simp at e5; omega
      · rw [Int.mul_neg, Int.mul_one] at e5; omega
      · have := Int.mul_le_mul_of_nonneg_left h (show 0 ≤ m by omega); rw [Int.mul_one] at this; omega
      · have := Int.mul_le_mul_of_nonneg_left h (show 0 ≤ m by omega); omega
  have hz : ¬ m = 0 := by omega
  rw [h3]
  clear h3
  by_cases h0 : n.tmod m < 0
  · rw [if_pos h0]
    go_enter Tryz.func27, Tryz.ntmps27
    go_wp2_with fail
    go_ret
    exact ⟨rfl, rfl⟩
  · rw [if_neg h0]
    go_enter Tryz.func27, Tryz.ntmps27
    go_wp2_with fail
    go_ret
    exact ⟨rfl, rfl⟩
end Go.Proofs.YtgnjakaamgeibaaGreatDoor
