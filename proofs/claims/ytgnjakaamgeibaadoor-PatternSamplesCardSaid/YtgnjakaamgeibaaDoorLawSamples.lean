/-
  PatternSamples: the law returns true. Conditions: the laid tables; the arguments lie in memory.
-/
import Derived.Test.YtgnjakaamgeibaaDoorSmp
import Derived.Test.YtgnjakaamgeibaaDoorSan5
namespace Go.Proofs.YtgnjakaamgeibaaDoor
open Go.RowKit Go.Shelf
attribute [local go_sem] Oper.semAt_some

theorem new_pc (w : World) (c a b : Int) : Pcs (w.alloc (.cells #[.int .i64 c, .int .i64 a, .int .i64 b, .string ⟨#[]⟩] 53)) (.slice (some ⟨w.heap.size, 0, none⟩) 1 1) [⟨c, a, b, ⟨#[]⟩⟩] := by
  refine ⟨by simp [pcC], .inr ⟨w.heap.size, 1, _, rfl, Nat.zero_le _, heap_alloc_new w _, by simp, by unfold maxLen; omega, by simp, by simp [pcC]⟩⟩
theorem all_match {s : List UInt8} (h1 : 1 ≤ s.length) (h2 : s.length ≤ 200) (h3 : chrs s = true) : matchB [⟨7, s.length, s.length, ⟨#[]⟩⟩] s = true := by
  have hr : rightB [⟨7, (s.length : Int), (s.length : Int), ⟨#[]⟩⟩] = true := by
    unfold rightB pcsB pcsB pieceB wrt wrtP
    have := cntW_len (s.length : Int) (s.length : Int) (by omega) (by omega)
    simp [Pc.t]
    omega
  unfold matchB
  rw [hr, mt_one]
  unfold fits textB consB
  rw [if_neg (show ¬ (7 : Int) = 0 by decide), h3, decide_eq_true h2]
  simp [insB]
theorem emp_both {s : ByteArray} (h : s.data.toList = []) : (s.toList == []) = true ∧ s.toList.isEmpty = true := by
  obtain ⟨a, b⟩ := emp_str s
  rw [a, b, h]
  exact ⟨rfl, rfl⟩
theorem full_both {s : ByteArray} (h : s.data.toList ≠ []) : (s.toList == []) = false ∧ s.toList.isEmpty = false := by
  obtain ⟨a, b⟩ := emp_str s
  rw [a, b]
  cases hh : s.data.toList with
  | nil => exact absurd hh h
  | cons x l => exact ⟨rfl, rfl⟩
theorem print_right {ps : List Pc} (h : printL ps ≠ []) : rightB ps = true := by
  unfold printL at h
  split at h
  · assumption
  · exact absurd rfl h

set_option maxRecDepth 100000 in
set_option maxHeartbeats 8000000 in
theorem law_samples {ao ao1 : Option Addr} {n cap n1 cap1 : Nat} {l l1 : List Int} (w : World) (hT : Tabs w) (hI : IntsAt w ao l) (hn : l.length = n) (hb : n ≤ maxLen) (hI1 : IntsAt w ao1 l1) (hn1 : l1.length = n1) (hb1 : n1 ≤ maxLen) :
    Calls Tryd.prog 9 #[.slice ao n cap, .slice ao1 n1 cap1] w fun e w' => e = .returned (.bool true) ∧ Frm (fun _ => False) w w' := by
  have HT := Lib.hid hT
  have HI := Lib.hid hI
  have HI1 := Lib.hid hI1
  have Hn := Lib.hid hn
  have Hn1 := Lib.hid hn1
  clear hT hI hI1 hn hn1
  go_enter Tryd.func9, Tryd.ntmps9
  go_wp2_with fail
  refine (sanity5_any w HT.out).mono ?_
  rintro e w1 ⟨rfl, f1⟩
  have F1 := Lib.hid f1
  clear f1
  go_wp2_with fail
  refine (made_any w1 (HI.out.still F1.out) Hn.out hb).mono ?_
  rintro e w2 ⟨v6, rfl, hP6, f2⟩
  have hok := made_ok l
  obtain ⟨hsm, hln⟩ := md_small hok (Nat.le_refl _)
  generalize madeL l = ps at *
  have F2 := Lib.hid (F1.out.trans f2)
  have HP := Lib.hid hP6
  clear f2 hP6
  go_wp2_with fail
  refine (sample_any w2 HP.out (fun p hp => (hok.pc p hp).1) (fun p hp => by have := (hok.pc p hp).2; omega) hok.len (HI1.out.still F2.out) Hn1.out hb1).mono ?_
  rintro e w3 ⟨rfl, hsl, f3⟩
  obtain ⟨hmt, hch⟩ := smp_mt ps l1 (fun p hp => (hok.pc p hp).1)
  generalize smpL ps l1 = sl at *
  unfold strV
  obtain ⟨xs, hxs⟩ : ∃ xs : ByteArray, (⟨sl.toArray⟩ : ByteArray) = xs := ⟨_, rfl⟩
  rw [hxs]
  have hxl : xs.data.toList = sl := by rw [← hxs]
  have hxz : xs.size = sl.length := by rw [← size_list, hxl]
  have F3 := Lib.hid (F2.out.trans f3)
  have HP3 := Lib.hid (HP.out.still f3)
  have Hmt := Lib.hid hmt
  have Hch := Lib.hid hch
  have Hxl := Lib.hid hxl
  have Hxz := Lib.hid hxz
  have hx1000 : xs.size ≤ 1000 := by omega
  clear f3 HP hmt hch hxl hxs hxz hsl
  by_cases h200 : 200 < xs.size
  · have h2 : (200 : Int) < (xs.size : Int) := by omega
    go_wp2_with fail
    go_ret
    exact ⟨rfl, F3.out⟩
  · have h2 : ¬ ((200 : Int) < (xs.size : Int)) := by omega
    go_wp2_with fail
    refine (print_any w3 HP3.out hsm hln (HT.out.frm F3.out)).mono ?_
    rintro e w4 ⟨rfl, f4⟩
    unfold strV
    obtain ⟨ys, hys⟩ : ∃ ys : ByteArray, (⟨(printL ps).toArray⟩ : ByteArray) = ys := ⟨_, rfl⟩
    rw [hys]
    have hyl : ys.data.toList = printL ps := by rw [← hys]
    have F4 := Lib.hid (F3.out.trans f4)
    have HP4 := Lib.hid (HP3.out.still f4)
    clear f4 hys
    by_cases hpe : printL ps = []
    · obtain ⟨e1, e2⟩ := emp_both (hyl.trans hpe)
      clear hyl hpe
      go_wp2_with fail
      go_ret
      exact ⟨rfl, F4.out⟩
    · obtain ⟨e1, e2⟩ := full_both (by rw [hyl]; exact hpe)
      have hr := print_right hpe
      have hm : matchB ps xs.data.toList = true := by
        unfold matchB textB
        rw [hr, Hxl.out, Hmt.out, Hch.out, decide_eq_true (by have := Hxz.out; omega)]
        rfl
      have Hm := Lib.hid hm
      clear hyl hpe hr hm
      go_wp2_with fail
      refine (matches_any w4 xs (by omega) HP4.out hsm hln (HT.out.frm F4.out)).mono ?_
      rintro e w5 ⟨rfl, f5⟩
      rw [Hm.out]
      have F5 := Lib.hid (F4.out.trans f5)
      clear f5 e1 e2
      by_cases hse : sl = []
      · obtain ⟨e1, e2⟩ := emp_both (Hxl.out.trans hse)
        clear hse
        go_wp2_with fail
        go_ret
        exact ⟨rfl, F5.out⟩
      · obtain ⟨e1, e2⟩ := full_both (by rw [Hxl.out]; exact hse)
        have hpos : 1 ≤ sl.length := List.length_pos_iff.2 hse
        have ham := all_match hpos (by have := Hxz.out; omega) Hch.out
        rw [← Hxl.out] at ham
        rw [size_list] at ham
        have Ham := Lib.hid ham
        clear hpos
        have hsm1 : Small [⟨7, (xs.size : Int), (xs.size : Int), ⟨#[]⟩⟩] := fun p hp => by rw [List.mem_singleton] at hp; subst hp; exact Nat.zero_le _
        clear hse ham
        go_wp2_with fail
        refine (matches_any _ xs (by omega) (new_pc w5 7 xs.size xs.size) hsm1 (by simp) (HT.out.frm (F5.out.alloc _))).mono ?_
        rintro e w6 ⟨rfl, f6⟩
        rw [Ham.out]
        have F6 := Lib.hid ((F5.out.alloc _).trans f6)
        clear f6
        go_wp2_with fail
        go_ret
        exact ⟨rfl, F6.out⟩
end Go.Proofs.YtgnjakaamgeibaaDoor
