/-
  pattern.Matches; pattern.finds as an iterator. Conditions: the pieces lie in memory, few and short.
-/
import Derived.Test.YtgnjakaamgeibaaDoorRch
import Derived.Test.YtgnjakaamgeibaaDoorRangeA
namespace Go.Proofs.YtgnjakaamgeibaaDoor
open Go.RowKit Go.Shelf
attribute [local go_sem] Oper.semAt_some

theorem vals_cell {w : World} {b n j : Nat} {f : Nat → Int} (h : w.heap[b]? = some (.cells (valsI n f) 3 (0, 0))) (hj : j ≤ n) : w.cell? ⟨b, j, none⟩ = some (.int .i64 (f j)) := by
  rw [cell_of_row w b j _ _ _ h]
  exact valsI_at f hj
set_option maxRecDepth 100000 in
set_option maxHeartbeats 2000000 in
theorem matches_any {v : Value} {ps : List Pc} (w : World) (s : ByteArray) (hb : s.size ≤ 9223372036854775807) (hP : Pcs w v ps) (hsm : Small ps) (hn : ps.length ≤ 1000) (hT : Tabs w) :
    Calls Tryd.prog 42 #[v, .string s] w fun e w' => e = .returned (.bool (matchB ps s.data.toList)) ∧ Frm (fun _ => False) w w' := by
  have hl := size_list s
  have hm : matchB ps s.data.toList = (rightB ps && textB s.data.toList && mtB ps s.data.toList) := rfl
  rw [hm]
  clear hm
  have HP := Lib.hid hP
  have HT := Lib.hid hT
  clear hP hT
  go_enter Tryd.func42, Tryd.ntmps42
  go_wp2_with fail
  refine (right_any _ HP.out hsm hn HT.out).mono ?_
  rintro e w1 ⟨rfl, f1⟩
  cases hr : rightB ps
  · go_wp2_with fail
    go_ret
    exact ⟨ret_bool (by rw [hr]; rfl), f1⟩
  · have hmem := right_mem hr
    go_wp2_with fail
    refine (isText_any s hb _).mono ?_
    rintro e w2 ⟨rfl, rfl⟩
    cases ht : textB s.data.toList
    · go_wp2_with fail
      go_ret
      exact ⟨ret_bool (by rw [hr, ht]; rfl), f1⟩
    · have h200 : s.size ≤ 200 := by
        unfold textB at ht
        rw [Bool.and_eq_true, decide_eq_true_eq] at ht
        omega
      go_wp2_with fail
      refine (reach_any w1 s (HP.out.still f1) hmem hsm hn h200).mono ?_
      rintro e w3 ⟨b, rfl, hblk, hle, f3⟩
      have c0 := vals_cell hblk (Nat.zero_le _)
      have hG := isG_full (gEnd_isG ps s.data.toList 0)
      rw [hl] at hG
      have HG := Lib.hid hG
      have Hf := Lib.hid (f1.trans f3)
      clear hG hblk f1 f3 hmem
      go_wp2_with fail
      go_ret
      exact ⟨ret_bool (by rw [HG.out, hr, ht]; rfl), Hf.out⟩

/-! ### finds -/
def encP (x : Nat × Nat) : Array Value := #[.int .i64 (x.1 : Int), .int .i64 (x.2 : Int)]
def fndT (pp pt : Nat) (v : Value) (s : ByteArray) : List Thing := [cellT pp #[v] 46, cellT pt #[.string s] 9]
theorem finds_own (v : Value) (s : ByteArray) (W : World) (hv : ∃ ao n cap, v = .slice ao n cap) : Calls Tryd.prog 94 #[v, .string s] W fun r w' =>
    ∃ pp pt, r = .returned (.func (.func 124) #[] #[.pointer (some ⟨pp, 0, none⟩), .pointer (some ⟨pt, 0, none⟩)]) ∧ (∀ w0 L, Own w0 L W → Own w0 (L ++ fndT pp pt v s) w') ∧ Frm (fun _ => False) W w' := by
  have hmf : ∀ (fn : Fn) (first cap : Array Value) (w : World), (Instr.makeFunc fn first cap).run Tryd.prog w = .ok (.func fn first cap) w := fun _ _ _ _ => rfl
  obtain ⟨ao, n, cap, rfl⟩ := hv
  go_enter Tryd.func94, Tryd.ntmps94
  go_wp2
  go_ret
  refine ⟨_, _, rfl, fun w0 L h => ?_, ((Frm.refl _ _).alloc _).alloc _⟩
  have := (h.box #[.slice ao n cap] 46).box #[.string s] 9
  simp only [World.size_alloc, List.append_assoc] at this
  exact this

set_option maxRecDepth 100000 in
set_option maxHeartbeats 4000000 in
theorem finds_iter (n pp pt : Nat) (hn1 : 1 ≤ n) {w00 w0 : World} (hF0 : Frm (fun _ => False) w00 w0) {v : Value} {ps : List Pc} (s : ByteArray) (hb : s.size ≤ 9223372036854775807) (hP : Pcs w00 v ps) (hsm : Small ps) (hn : ps.length ≤ 1000) (hT : Tabs w00) :
    IterAt w0 Fence.wide n Tryd.prog 124 #[.pointer (some ⟨pp, 0, none⟩), .pointer (some ⟨pt, 0, none⟩)] encP (fndT pp pt v s) (fun xs => xs = findsL ps s.data.toList) (fun _ => True) (fun pre x => pre ++ [x] <+: findsL ps s.data.toList) := by
  intro l M Mx Lm W hO hM hY
  have hl := size_list s
  have hq := findsL_eq ps s.data.toList
  obtain ⟨ao, cap, rfl⟩ := hP.form
  refine callsIn_of_wp Tryd.func124 rfl trivial ?_ rfl
  simp only [Tryd.ntmps124, List.size_toArray, List.length_cons, List.length_nil, Nat.reduceAdd, Nat.reduceSub, Array.replicate_succ, Array.replicate_zero, List.push_toArray, List.append_toArray, List.nil_append, List.cons_append]
  have hF := hF0.trans hO.frm
  have c1 := (hO.cell1 (x := pp) (v := .slice ao ps.length cap) (t := 46) Lm.length (by simp [fndT])).1
  have c2 := (hO.cell1 (x := pt) (v := .string s) (t := 9) (Lm.length + 1) (by simp [fndT])).1
  have HP := Lib.hid hP
  have HT := Lib.hid hT
  have HM := Lib.hid hM
  have HO := Lib.hid hO
  have HF := Lib.hid hF
  clear hP hT hM hO hF
  gi_wp2_with fail
  refine ⟨trivial, (callsIn_wide.2 (right_any W (HP.out.still HF.out) hsm hn (HT.out.frm HF.out))).mono ?_⟩
  rintro e w1 ⟨rfl, f1⟩
  have HO1 := Lib.hid (HO.out.still f1)
  have d1 := f1.cell c1 (fun h => h)
  have d2 := f1.cell c2 (fun h => h)
  clear c1 c2
  cases hr : rightB ps
  · rw [hr] at hq
    have Hq : Hid (findsL ps s.data.toList = []) := Lib.hid hq
    clear hq hY
    gi_wp2_with fail
    refine ⟨trivial, ?_⟩
    gi_wp2_with fail
    refine bodyPost_ret (results_none rfl _ _ _) rfl ?_
    exact ⟨⟨_, rfl⟩, .inl ⟨[], Lm, _, Hq.out.symm, HM.out, HO1.out⟩⟩
  · rw [hr] at hq
    have hmem := right_mem hr
    gi_wp2_with fail
    refine ⟨trivial, (callsIn_wide.2 (isText_any s hb _)).mono ?_⟩
    rintro e w2 ⟨rfl, rfl⟩
    cases ht : textB s.data.toList
    · rw [ht] at hq
      have Hq : Hid (findsL ps s.data.toList = []) := Lib.hid hq
      clear hq hY
      gi_wp2_with fail
      refine bodyPost_ret (results_none rfl _ _ _) rfl ?_
      exact ⟨⟨_, rfl⟩, .inl ⟨[], Lm, _, Hq.out.symm, HM.out, HO1.out⟩⟩
    · rw [ht] at hq
      have Hq : Hid (findsL ps s.data.toList = [] ++ fndA ps s.data.toList 0) := Lib.hid hq
      have h200 : s.size ≤ 200 := by
        unfold textB at ht
        rw [Bool.and_eq_true, decide_eq_true_eq] at ht
        omega
      clear hq
      gi_wp2_with fail
      refine ⟨trivial, (callsIn_wide.2 (reach_any w1 s (HP.out.still (HF.out.trans f1)) hmem hsm hn h200)).mono ?_⟩
      rintro e w3 ⟨b, rfl, hblk, hle, f3⟩
      have hO3 := HO1.out.add (T := cellT b (valsI s.size (gEnd ps s.data.toList)) 3) (F' := fun k => k = b) ⟨hblk, rfl⟩ f3 (fun k hk => by subst hk; exact hle)
      rw [List.append_assoc] at hO3
      have HO3 := Lib.hid hO3
      clear hO3 hblk hle f3 f1 d1 d2 HO1 HO HF
      gi_wp2_with fail
      gi_loopw [5] (fun v wr => ∃ (i : Nat) (pre : List (Nat × Nat)) (Lm : List Thing), v = .int .i64 i ∧ i ≤ s.size ∧ Hid (M pre Lm) ∧ Hid (Own w0 (Lm ++ (fndT pp pt (.slice ao ps.length cap) s ++ [cellT b (valsI s.size (gEnd ps s.data.toList)) 3])) wr) ∧ Hid (findsL ps s.data.toList = pre ++ fndA ps s.data.toList i))
        (fun v _ => s.size - (intOf v).toNat)
      case atStart => exact ⟨0, [], Lm, rfl, Nat.zero_le _, HM, HO3, Hq⟩
      case round =>
        clear HM HO3 Hq
        obtain ⟨i, pre, Lm, rfl, hi, hM, hO, hv⟩ := hrel
        have c2 := (hO.out.cell1 (x := pt) (v := .string s) (t := 9) (Lm.length + 1) (by simp [fndT])).1
        by_cases hlt : i < s.size
        · have hlt' : (i : Int) < (s.size : Int) := by omega
          have c3 := (hO.out.ints (x := b) (n := s.size) (f := gEnd ps s.data.toList) (j := i) (Lm.length + 2) (by simp [fndT]) hi).1
          have hgl := gEnd_le ps s.data.toList i
          rw [hl] at hgl
          by_cases hg : gEnd ps s.data.toList i ≤ i
          · have hv2 := hv.out
            rw [fndA_no (by omega) hg] at hv2
            have Hv2 := Lib.hid hv2
            clear hv hv2 hY
            gi_wp2_with fail
            refine ⟨⟨i + 1, pre, Lm, by go_num, by omega, hM, hO, Hv2⟩, ?_⟩
            simp [intOf]
            omega
          · have hg' : (i : Int) < gEnd ps s.data.toList i := by omega
            obtain ⟨k, hk⟩ : ∃ k : Nat, gEnd ps s.data.toList i = (k : Int) := ⟨(gEnd ps s.data.toList i).toNat, by omega⟩
            have hv2 := hv.out
            rw [fndA_yes (by omega) hg', hk, Int.toNat_natCast, List.append_cons] at hv2
            rw [hk] at c3 hg hg' hgl
            have hik : i < k := by omega
            have hks : k ≤ s.size := by omega
            obtain ⟨fn, tmps, assign, body, hy, hR⟩ := hY pre (i, k) wr Lm _ hM.out hO.out ⟨_, hv2.symm⟩
            simp only [encP] at hy
            have HR := Lib.hid hR
            have Hv2 := Lib.hid hv2
            clear hv hv2 hY hR hO hM
            gi_wp2_with fail
            refine HR.out.mono ?_
            rintro r W' (⟨rfl, Lm', hM2, hO2⟩ | ⟨rfl, Lm', hM2, hO2⟩)
            · have c3' := (hO2.ints (x := b) (n := s.size) (f := gEnd ps s.data.toList) (j := i) (Lm'.length + 2) (by simp [fndT]) hi).1
              rw [hk] at c3'
              have HM2 := Lib.hid hM2
              have HO2 := Lib.hid hO2
              clear hM2 hO2 HR hy c2 c3
              gi_wp2_with fail
              refine ⟨⟨k, _, Lm', rfl, hks, HM2, HO2, Hv2⟩, ?_⟩
              simp [intOf]
              omega
            · gi_wp2_with fail
              refine bodyPost_ret (results_none rfl _ _ _) rfl ?_
              exact ⟨⟨_, rfl⟩, .inr ⟨_, Lm', _, trivial, hM2, hO2⟩⟩
        · have hv2 := hv.out
          rw [fndA_end (by omega), List.append_nil] at hv2
          have Hv2 := Lib.hid hv2
          have hend : ¬ ((i : Int) < (s.size : Int)) := by omega
          clear hv hv2 hY
          gi_wp2_with fail
          go_end0
          exact ⟨⟨_, rfl⟩, .inl ⟨Lm, by rw [Hv2.out]; exact hM.out, _, hO.out⟩⟩
end Go.Proofs.YtgnjakaamgeibaaDoor
