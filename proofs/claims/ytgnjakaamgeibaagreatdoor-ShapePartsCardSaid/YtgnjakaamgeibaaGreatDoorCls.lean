/-
  Characters and classes: what the code of both sides does. Conditions: the strings are within reach.
-/
import Derived.Test.YtgnjakaamgeibaaGreatDoorOwn
import Derived.Test.YtgnjakaamgeibaaGreatDoorOps
import Derived.Test.YtgnjakaamgeibaaGreatDoorPrs
import Derived.Test.YtgnjakaamgeibaaGreatDoorShelf
import Derived.IntWalk
import Derived.LoopTactic
namespace Go.Proofs.YtgnjakaamgeibaaGreatDoor
open Go.RowKit Go.Shelf
attribute [local go_sem] Oper.semAt_some
/-- What the package variable holds. -/
structure Tabs (w : World) : Prop where
  pow : Lib.TabIs Tryz.prog w "internal/strconv.uint64pow10" .u64 Lib.pow10Tab
theorem Tabs.frm {w w' : World} (h : Tabs w) (hf : Frm (fun _ => False) w w') : Tabs w' := by
  refine ⟨?_⟩
  have hp := h.pow
  unfold Lib.TabIs at hp ⊢
  rw [← hp]
  unfold World.var?
  cases hg : Tryz.prog.globalNamed "internal/strconv.uint64pow10" with
  | none => rfl
  | some g =>
    simp only [Option.bind_some]
    rcases Nat.lt_or_ge g w.heap.size with hlt | hge
    · rw [hf.block g hlt (fun h => h)]
    · exfalso
      unfold World.var? at hp
      rw [hg] at hp
      simp [Array.getElem?_eq_none hge] at hp
theorem ret_int {k : IntKind} {a b : Int} (h : a = b) : Ending.returned (.int k a) = .returned (.int k b) := by rw [h]
theorem cls_int (n : Nat) : ((if n < 32 ∨ 126 < n then 0 else if 48 ≤ n ∧ n ≤ 57 then 1 else if 65 ≤ n ∧ n ≤ 90 then 2 else if 97 ≤ n ∧ n ≤ 122 then 3 else if n = 32 then 5 else 6 : Nat) : Int) = if n < 32 ∨ 126 < n then 0 else if 48 ≤ n ∧ n ≤ 57 then 1 else if 65 ≤ n ∧ n ≤ 90 then 2 else if 97 ≤ n ∧ n ≤ 122 then 3 else if n = 32 then 5 else 6 := by
  split
  · rfl
  split
  · rfl
  split
  · rfl
  split
  · rfl
  split <;> rfl
set_option maxHeartbeats 1000000 in
theorem class_any (c : UInt8) (w : World) : Calls Tryz.prog 57 #[.int .u8 c.toNat] w fun e w' => e = .returned (.int .i64 (clsB c)) ∧ w = w' := by
  unfold clsB
  rw [cls_int]
  have hn := c.toNat_lt
  generalize c.toNat = n at hn ⊢
  by_cases h32 : n = 32
  · subst h32
    go_enter Tryz.func57, Tryz.ntmps57
    go_wp2_with fail
    go_ret
    exact ⟨rfl, rfl⟩
  · have e32 : ((n : Int) == 32) = false := by rw [beq_eq_false_iff_ne]; omega
    have n32 : ¬ (n : Int) = 32 := by omega
    go_enter Tryz.func57, Tryz.ntmps57
    go_wp2_with fail
    all_goals go_ret
    all_goals refine ⟨ret_int ?_, rfl⟩
    all_goals (repeat' split) <;> first | rfl | (exfalso; omega)
set_option maxHeartbeats 1000000 in
theorem rclass_any (c : UInt8) (w : World) : Calls Tryz.prog 51 #[.int .u8 c.toNat] w fun e w' => e = .returned (.int .i64 (clsB c)) ∧ w = w' := by
  unfold clsB
  rw [cls_int]
  have hn := c.toNat_lt
  generalize c.toNat = n at hn ⊢
  by_cases h32 : n = 32
  · subst h32
    go_enter Tryz.func51, Tryz.ntmps51
    go_wp2_with fail
    go_ret
    exact ⟨rfl, rfl⟩
  · have e32 : ((n : Int) == 32) = false := by rw [beq_eq_false_iff_ne]; omega
    have n32 : ¬ (n : Int) = 32 := by omega
    go_enter Tryz.func51, Tryz.ntmps51
    go_wp2_with fail
    all_goals go_ret
    all_goals refine ⟨ret_int ?_, rfl⟩
    all_goals (repeat' split) <;> first | rfl | (exfalso; omega)
theorem contained_any (a k : Int) (w : World) : Calls Tryz.prog 92 #[.int .i64 a, .int .i64 k] w fun e w' => e = .returned (.bool (insB a k)) ∧ w = w' := by
  go_enter Tryz.func92, Tryz.ntmps92
  go_wp2_with fail
  all_goals go_ret
  all_goals refine ⟨ret_bool ?_, rfl⟩
  all_goals (rw [Bool.eq_iff_iff]; simp [insB]; try omega)
def allR (l : List UInt8) (k : Int) : Bool := l.all fun c => clsB c != 0 && insB (clsB c) k
theorem allR_seven (l : List UInt8) : allR l 7 = chrs l := by
  unfold allR chrs
  congr 1
  funext c
  simp [insB]
theorem all_take {l : List UInt8} {P : UInt8 → Bool} {k : Nat} (hk : k < l.length) : (l.take (k + 1)).all P = ((l.take k).all P && P l[k]) := by
  rw [List.take_succ_eq_append_getElem hk, List.all_append]
  simp
theorem all_no {l : List UInt8} {P : UInt8 → Bool} {k : Nat} (hk : k < l.length) (h : P l[k] = false) : l.all P = false := by
  rw [Bool.eq_false_iff]
  intro h2
  rw [List.all_eq_true] at h2
  rw [h2 _ (List.getElem_mem hk)] at h
  cases h
set_option maxHeartbeats 1000000 in
theorem characters_any (s : ByteArray) (hs : s.size ≤ 9223372036854775807) (w : World) : Calls Tryz.prog 93 #[.string s] w fun e w' => e = .returned (.bool (chrs s.data.toList)) ∧ w = w' := by
  have hl := size_list s
  go_enter Tryz.func93, Tryz.ntmps93
  go_wp2_with fail
  go_loop [6] (fun i => ∃ k : Nat, i = .int .i64 k ∧ k ≤ s.size ∧ Hid ((s.data.toList.take k).all (fun c => clsB c != 0) = true)) (fun i => s.size - (intOf i).toNat)
  case atStart => exact ⟨0, rfl, Nat.zero_le _, by show _ = _; rfl⟩
  case round =>
    obtain ⟨k, rfl, hk, ha⟩ := hrel
    have Hl := Lib.hid hl
    clear hl
    by_cases hlt : k < s.size
    · have j3 : k < s.data.toList.length := by have := Hl.out; omega
      have hge : s.data.toList[k] = s[k] := rfl
      have hst := all_take (P := fun c => clsB c != 0) j3
      rw [ha.out, hge] at hst
      have hno := all_no (P := fun c => clsB c != 0) j3
      rw [hge] at hno
      have Hst := Lib.hid hst
      have Hno := Lib.hid hno
      clear hst hno hge ha
      go_wp2_with fail
      refine (class_any s[k] _).mono ?_
      rintro e w1 ⟨rfl, rfl⟩
      by_cases hc : clsB s[k] = 0
      · have hr : chrs s.data.toList = false := Hno.out (by simp [hc])
        have Hr := Lib.hid hr
        have hc2 : ((clsB s[k] : Int) == 0) = true := by rw [hc]; rfl
        have hc3 : (clsB s[k] : Int) = 0 := by omega
        clear hr hc
        go_wp2_with fail
        go_ret
        exact ⟨by rw [Hr.out]; rfl, rfl⟩
      · have hr := Hst.out
        rw [Bool.true_and, show (clsB s[k] != 0) = true by simpa using hc] at hr
        have Hr := Lib.hid hr
        have hc2 : ((clsB s[k] : Int) == 0) = false := by rw [beq_eq_false_iff_ne]; omega
        have hc3 : ¬ (clsB s[k] : Int) = 0 := by omega
        clear hr hc
        go_wp2_with fail
        go_round
        case rel => exact ⟨k + 1, by go_num, hlt, Hr⟩
        case measure => simp [intOf]; omega
    · have hr : chrs s.data.toList = true := by
        have := ha.out
        rw [List.take_of_length_le (by have := Hl.out; omega)] at this
        exact this
      have Hr := Lib.hid hr
      have hend : ¬ ((k : Int) < (s.size : Int)) := by omega
      clear hr ha hlt
      go_wp2_with fail
      go_ret
      exact ⟨by rw [Hr.out]; rfl, rfl⟩
end Go.Proofs.YtgnjakaamgeibaaGreatDoor
