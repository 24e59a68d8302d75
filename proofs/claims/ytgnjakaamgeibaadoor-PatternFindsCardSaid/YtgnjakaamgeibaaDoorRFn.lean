/-
  The reference's finds, Find, Count: what the code does. Conditions: the pieces are small.
-/
import Derived.Test.YtgnjakaamgeibaaDoorREn
import Derived.Test.YtgnjakaamgeibaaDoorApp
import Derived.Test.YtgnjakaamgeibaaDoorFdc
namespace Go.Proofs.YtgnjakaamgeibaaDoor
open Go.RowKit Go.Shelf
attribute [local go_sem] Oper.semAt_some

/-- Pairs, one number after the other. -/
def flatI : List (Nat × Nat) → List Value
  | [] => []
  | (a, b) :: r => .int .i64 a :: .int .i64 b :: flatI r
theorem flat_snoc : ∀ (l : List (Nat × Nat)) (a b : Nat), flatI (l ++ [(a, b)]) = flatI l ++ [.int .i64 a, .int .i64 b]
  | [], _, _ => rfl
  | (c, d) :: l, a, b => by rw [List.cons_append, flatI, flat_snoc l a b]; rfl
theorem flat_at : ∀ {l : List (Nat × Nat)} {k : Nat} (h : k < l.length), (flatI l)[2 * k]? = some (.int .i64 l[k].1) ∧ (flatI l)[2 * k + 1]? = some (.int .i64 l[k].2)
  | (a, b) :: r, 0, _ => ⟨rfl, rfl⟩
  | (a, b) :: r, k + 1, h => by
    obtain ⟨h1, h2⟩ := flat_at (l := r) (k := k) (by simpa using h)
    rw [show 2 * (k + 1) = (2 * k + 1) + 1 by omega]
    exact ⟨by simpa [flatI] using h1, by simpa [flatI] using h2⟩
/-- A list of pairs that a call has made. -/
structure SpR (w0 w : World) (v : Value) (l : List (Nat × Nat)) : Prop where
  row : w.ownsRow 0 3 1 v (2 * l.length) (flatI l)
  frm : Frm (fun _ => False) w0 w
  new : ∀ k, Blk v k → w0.heap.size ≤ k
theorem SpR.nil {w0 w : World} (h : Frm (fun _ => False) w0 w) : SpR w0 w (.slice none 0 0) [] := ⟨World.ownsRow_nil _ _ _ _, h, fun _ h => (Blk.nil h).elim⟩
theorem SpR.still {w0 w w' : World} {v : Value} {l : List (Nat × Nat)} (h : SpR w0 w v l) (f : Frm (fun _ => False) w w') : SpR w0 w' v l := ⟨ownsRow_frm h.row f fun _ _ h => h, h.frm.trans f, h.new⟩
theorem SpR.form {w0 w : World} {v : Value} {l : List (Nat × Nat)} (h : SpR w0 w v l) : ∃ ao cap, v = .slice ao (2 * l.length) cap := by
  rcases h.row.2 with ⟨rfl, h0⟩ | ⟨g, cap, cur, rfl, _⟩
  · exact ⟨none, 0, by rw [h0]⟩
  · exact ⟨_, cap, rfl⟩
theorem SpR.push {w0 w w1 w' : World} {v : Value} {l : List (Nat × Nat)} (h : SpR w0 w v l) (f : Frm (fun _ => False) w w1) {a b g cap : Nat} (hr : w'.ownsRow 0 3 1 (.slice (some ⟨g, 0, none⟩) (2 * l.length + 2) cap) (2 * l.length + 2) (flatI l ++ [.int .i64 a, .int .i64 b])) (hf : Frm (Blk v) w1 w') (hg : Blk v g ∨ w1.heap.size ≤ g) :
    SpR w0 w' (.slice (some ⟨g, 0, none⟩) (2 * l.length + 2) cap) (l ++ [(a, b)]) := by
  have h' := h.still f
  refine ⟨?_, h'.frm.trans' hf fun k hk => .inr (h.new k hk), fun k hk => ?_⟩
  · rw [List.length_append, List.length_singleton, flat_snoc, show 2 * (l.length + 1) = 2 * l.length + 2 by omega]
    exact hr
  · obtain rfl := Blk.some.1 hk
    rcases hg with hg | hg
    · exact h.new _ hg
    · exact Nat.le_trans h'.frm.size hg
theorem SpR.cells {w0 w : World} {ao : Option Addr} {cap n : Nat} {l : List (Nat × Nat)} (h : SpR w0 w (.slice ao n cap) l) {k : Nat} (hk : k < l.length) : ∃ g, ao = some ⟨g, 0, none⟩ ∧ w.cell? ⟨g, 2 * k, none⟩ = some (.int .i64 l[k].1) ∧ w.cell? ⟨g, 2 * k + 1, none⟩ = some (.int .i64 l[k].2) := by
  rcases h.row.2 with ⟨hv, h0⟩ | ⟨g, c, cur, hv, -⟩
  · omega
  · injection hv with h1 h2 h3
    subst h1 h2 h3
    obtain ⟨f1, f2⟩ := flat_at hk
    have c1 := h.row.cells (g := g) rfl (2 * k) _ f1
    have c2 := h.row.cells (g := g) rfl (2 * k + 1) _ f2
    rw [Addr.add_lit, Nat.zero_add] at c1 c2
    exact ⟨g, rfl, c1, c2⟩

set_option maxRecDepth 100000 in
set_option maxHeartbeats 8000000 in
theorem rfinds_any {v : Value} {ps : List Pc} (w : World) (s : ByteArray) (hb : s.size ≤ 9223372036854775807) (hP : Pcs w v ps) (hsm : Small ps) (hn : ps.length ≤ 1000) :
    Calls Tryd.prog 95 #[v, .string s] w fun e w' => ∃ sp, e = .returned sp ∧ SpR w w' sp (findsL ps s.data.toList) := by
  have hl := size_list s
  have HP := Lib.hid hP
  clear hP
  go_enter Tryd.func95, Tryd.ntmps95
  go_wp2_with fail
  refine (rright_any _ HP.out hsm hn).mono ?_
  rintro e w1 ⟨rfl, f1⟩
  cases hr : rightB ps
  · go_wp2_with fail
    go_ret
    exact ⟨_, rfl, by rw [findsL, hr]; exact SpR.nil f1⟩
  · have hmem := right_mem hr
    go_wp2_with fail
    refine (risText_any s hb _).mono ?_
    rintro e w2 ⟨rfl, rfl⟩
    cases ht : textB s.data.toList
    · go_wp2_with fail
      go_ret
      exact ⟨_, rfl, by rw [findsL, hr, ht]; exact SpR.nil f1⟩
    · have ht2 := ht
      unfold textB at ht2
      rw [Bool.and_eq_true, decide_eq_true_eq] at ht2
      have h200 : s.size ≤ 200 := by omega
      have hfl : findsL ps s.data.toList = fndA ps s.data.toList 0 := by rw [findsL_eq, hr, ht]; rfl
      have Hfl := Lib.hid hfl
      have Hch := Lib.hid ht2.2
      obtain ⟨i3, hi3, hz3⟩ := info_parts (show (Tryd.prog.info? 3).map (fun i => (i.zero, i.size, i.bytes)) = some (some (.int .i64 0), 1, 8) by kernel_rfl)
      obtain ⟨hz0, hz1, hz2⟩ := hz3
      clear hfl ht2
      go_wp2_with fail
      go_loopw [5, 6] (fun va si wr => ∃ (l : List (Nat × Nat)) (i : Nat), si = .int .i64 i ∧ i ≤ s.size ∧ l.length ≤ i ∧ Hid (SpR w wr va l) ∧ Hid (l ++ fndA ps s.data.toList i = fndA ps s.data.toList 0)) (fun _ si _ => s.size - (intOf si).toNat)
      case atStart => exact ⟨[], 0, rfl, Nat.zero_le _, Nat.le_refl _, Lib.hid (SpR.nil f1), Lib.hid rfl⟩
      case round =>
        clear f1
        obtain ⟨l, i, rfl, hi, hli, hS, hF⟩ := hrel
        by_cases hlt : i < s.size
        · have hlt' : (i : Int) < (s.size : Int) := by omega
          go_wp2_with fail
          refine (rends_any wr s i (HP.out.still hS.out.frm) hmem hsm hn h200 Hch.out (by omega)).mono ?_
          rintro e w3 ⟨b, rfl, hblk, hle, f3⟩
          have hS3 := Lib.hid (hS.out.still f3)
          have hcell : ∀ j, j ≤ s.size → w3.cell? ⟨b, j, none⟩ = some (.bool (reachB ps s.data.toList i j)) := fun j hj => by
            rw [cell_of_row w3 b _ _ _ _ hblk]
            exact valsB_at _ hj
          have Hc := Lib.hid hcell
          clear hcell hblk f3 hle hS
          go_wp2_with fail
          go_loopw [8] (fun sj wr => ∃ j : Nat, sj = .int .i64 j ∧ i ≤ j ∧ j ≤ s.size ∧ Hid (∀ m, j < m → m ≤ s.size → reachB ps s.data.toList i m = false) ∧ wr = w3) (fun sj _ => (intOf sj).toNat)
          case atStart => exact ⟨s.size, rfl, by omega, Nat.le_refl _, Lib.hid fun m h1 h2 => by omega, rfl⟩
          case round =>
            obtain ⟨j, rfl, hij, hj, hN, rfl⟩ := hrel
            have hjI : (j : Int) < (s.size : Int) + 1 := by omega
            have c0 := Hc.out j hj
            by_cases hgt : i < j
            · have hgt' : (i : Int) < (j : Int) := by omega
              have hgt2 : (j : Int) > (i : Int) := hgt'
              cases hrc : reachB ps s.data.toList i j
              · rw [hrc] at c0
                have Hrc := Lib.hid hrc
                clear hrc
                go_wp2_with fail
                go_roundw
                case rel => exact ⟨j - 1, by go_num, by omega, by omega, Lib.hid fun m h1 h2 => by
                  by_cases e : m = j
                  · rw [e]; exact Hrc.out
                  · exact hN.out m (by omega) h2, trivial⟩
                case measure => simp [intOf]; omega
              · rw [hrc] at c0
                have hg := g_above (p := ps) (s := s.data.toList) (i := i) (k := j) (by omega) hgt hrc (fun m h1 h2 => hN.out m h1 (by omega))
                have hy := fndA_yes (p := ps) (s := s.data.toList) (i := i) (by omega) (by rw [hg]; omega)
                rw [hg, Int.toNat_natCast] at hy
                have Hy := Lib.hid hy
                clear hg hy hrc
                have hrow := hS3.out.row
                have hlw := hS3.out
                have hrow1 := ownsRow_frm hrow ((Frm.refl (fun _ => False) wr).alloc (.cells #[.int .i64 i, .int .i64 j] 3)) (fun _ _ h => h)
                have Hrow := Lib.hid hrow1
                clear hrow hrow1 hlw
                go_wp2_with (at_builtin; refine wpList_append_many rfl _ _ 22 rfl 3 i3 (.int .i64 0) 1 8 Tryd.underlying22 hi3 hz0 hz1 hz2 rfl (by decide) _ _ _ rfl Hrow.out ⟨wr.heap.size, 0, none⟩ 2 2 (by decide) [.int .i64 i, .int .i64 j] rfl rfl (new_cells wr #[.int .i64 i, .int .i64 j] 3 wr.heap.size rfl) (by intro u hu; simp at hu; rcases hu with rfl | rfl <;> rfl) (by omega) (by unfold maxLen; omega) ?_)
                intro g cap w' hr2 hf2 hg2
                have hS4 := Lib.hid (hS3.out.push ((Frm.refl _ _).alloc _) hr2 hf2 (by rw [World.size_alloc]; exact hg2))
                clear hr2 hf2 hg2
                go_wp2_with fail
                go_roundw
                case rel => exact ⟨_, j, rfl, hj, by rw [List.length_append, List.length_singleton]; omega, hS4, Lib.hid (by rw [List.append_assoc, List.singleton_append, ← Hy.out]; exact hF.out)⟩
                case measure => simp [intOf]; omega
            · have hgt' : ¬ (i : Int) < (j : Int) := by omega
              have hgt2 : ¬ (j : Int) > (i : Int) := hgt'
              obtain rfl : j = i := by omega
              have hno := fndA_no (p := ps) (s := s.data.toList) (i := j) (by omega) (g_none (fun m h1 h2 => hN.out m h1 (by omega)))
              have Hno := Lib.hid hno
              clear hno c0
              go_wp2_with fail
              go_roundw
              case rel => exact ⟨l, j + 1, by go_num, by omega, by omega, hS3, Lib.hid (by rw [← Hno.out]; exact hF.out)⟩
              case measure => simp [intOf]; omega
        · have hlt' : ¬ (i : Int) < (s.size : Int) := by omega
          obtain rfl : i = s.size := by omega
          have hx := hF.out
          rw [fndA_end (by omega), List.append_nil, ← Hfl.out] at hx
          have Hx := Lib.hid hx
          clear hx hF
          go_wp2_with fail
          go_ret
          exact ⟨_, rfl, by rw [← Hx.out]; exact hS.out⟩
-- find and count
theorem spr_len {w0 w : World} {v : Value} {ps : List Pc} {s : List UInt8} (_h : SpR w0 w v (findsL ps s)) : (findsL ps s).length ≤ s.length := finds_len ps s
set_option maxRecDepth 100000 in
set_option maxHeartbeats 4000000 in
theorem rfind_any {v : Value} {ps : List Pc} (w : World) (s : ByteArray) (nth : Int) (hb : s.size ≤ 9223372036854775) (hP : Pcs w v ps) (hsm : Small ps) (hn : ps.length ≤ 1000) :
    Calls Tryd.prog 51 #[v, .string s, .int .i64 nth] w fun e w' => e = .returned (.tuple #[.int .i64 (findO (findsL ps s.data.toList) nth).1, .int .i64 (findO (findsL ps s.data.toList) nth).2.1, .bool (findO (findsL ps s.data.toList) nth).2.2]) ∧ Frm (fun _ => False) w w' := by
  have hl := size_list s
  have hfl := finds_len ps s.data.toList
  rw [hl] at hfl
  have hfi := rfinds_any w s (by omega) hP hsm hn
  generalize findsL ps s.data.toList = fl at *
  have Hfi := Lib.hid hfi
  clear hfi hP
  go_enter Tryd.func51, Tryd.ntmps51
  go_wp2_with fail
  refine Hfi.out.mono ?_
  rintro e w1 ⟨sp, rfl, hS⟩
  obtain ⟨ao, cap, rfl⟩ := hS.form
  have HS := Lib.hid hS
  clear hS Hfi
  by_cases h1 : nth < 1
  · have hno := findO_no (l := fl) (nth := nth) (by omega)
    have Hno := Lib.hid hno
    clear hno
    go_wp2_with fail
    exact bodyPost_ret (results_tmp3 rfl _ _ _) rfl ⟨by rw [Hno.out]; rfl, HS.out.frm⟩
  · have hq : ((2 * fl.length : Nat) : Int).tdiv 2 = (fl.length : Int) := by rw [Int.tdiv_eq_ediv_of_nonneg (by omega)]; omega
    have hq2 : (2 * (fl.length : Int)).tdiv 2 = (fl.length : Int) := by rw [Int.tdiv_eq_ediv_of_nonneg (by omega)]; omega
    by_cases h2 : (fl.length : Int) < nth
    · have hno := findO_no (l := fl) (nth := nth) (by omega)
      have Hno := Lib.hid hno
      clear hno
      go_wp2_with fail
      exact bodyPost_ret (results_tmp3 rfl _ _ _) rfl ⟨by rw [Hno.out]; rfl, HS.out.frm⟩
    · obtain ⟨k, rfl⟩ : ∃ k : Nat, nth = (k : Int) + 1 := ⟨(nth - 1).toNat, by omega⟩
      have hk : k < fl.length := by omega
      have hhit := findO_hit (l := fl) (pre := fl.take k) (x := fl[k]) (by rw [← List.take_succ_eq_append_getElem hk]; exact List.take_prefix _ _)
      rw [List.length_take, Nat.min_eq_left (by omega)] at hhit
      obtain ⟨g, rfl, c0, c1⟩ := HS.out.cells hk
      generalize fl[k] = x at *
      obtain ⟨x1, x2⟩ := x
      have Hhit := Lib.hid hhit
      clear hhit
      have hwk1 : IntKind.i64.wrap (2 * ((k : Int) + 1)) = 2 * (k : Int) + 2 := by rw [IntWalk.i64_in _ (by omega)]; omega
      have hwk2 : IntKind.i64.wrap (2 * (k : Int)) = 2 * (k : Int) := IntWalk.i64_in _ (by omega)
      have hwk4 : IntKind.i64.wrap (2 * (k : Int) + 2 - 1) = 2 * (k : Int) + 1 := by rw [IntWalk.i64_in _ (by omega)]; omega
      have hwk3 : IntKind.i64.wrap (2 * (k : Int) + 1) = 2 * (k : Int) + 1 := IntWalk.i64_in _ (by omega)
      go_upto_region 4 with fail
      refine wp_region_held_drew (S := fun w' => w'.cell? ⟨g, 2 * k, none⟩ = some (.int .i64 (x1)) ∧ w'.cell? ⟨g, 2 * k + 1, none⟩ = some (.int .i64 (x2))) (by kernel_rfl) ⟨c0, c1⟩ (fun hHeld => ?_)
      refine wpAnyH_take (i := 0) (oi := ⟨some 22, _, _, _, _, _⟩) (v := (.slice (some ⟨g, 0, none⟩) (2 * fl.length) cap)) rfl (by kernel_rfl) (by kernel_rfl) (by kernel_rfl) (fun _ _ _ h => h) (.inl ⟨by rfl, fun w hw => by dsimp only at hw; go_simp⟩) hHeld ?_
      simp only [Act.put, List.setIfInBounds_toArray, List.set_cons_zero, List.set_cons_succ]
      refine wpAnyH_take (i := 1) (oi := ⟨some 23, _, _, _, _, _⟩) (v := (.int .i64 ((k : Int) + 1))) rfl (by kernel_rfl) (by kernel_rfl) (by kernel_rfl) (fun _ _ _ h => h) (.inl ⟨by rfl, fun w hw => by dsimp only at hw; go_simp⟩) hHeld ?_
      simp only [Act.put, List.setIfInBounds_toArray, List.set_cons_zero, List.set_cons_succ]
      refine wpAnyH_take (i := 2) (oi := ⟨some 24, _, _, _, _, _⟩) (v := (.int .i64 (2 * (k : Int) + 2))) rfl (by kernel_rfl) (by kernel_rfl) (by kernel_rfl) (fun _ _ _ h => h) (.inl ⟨by rfl, fun w hw => by dsimp only at hw; go_simp; try simp only [hwk1, hwk2, hwk3]⟩) hHeld ?_
      simp only [Act.put, List.setIfInBounds_toArray, List.set_cons_zero, List.set_cons_succ]
      refine wpAnyH_take (i := 3) (oi := ⟨some 25, _, _, _, _, _⟩) (v := (.int .i64 (2 * (k : Int)))) rfl (by kernel_rfl) (by kernel_rfl) (by kernel_rfl) (fun _ _ _ h => h) (.inl ⟨by rfl, fun w hw => by dsimp only at hw; go_simp; try simp only [hwk1, hwk2, hwk3]⟩) hHeld ?_
      simp only [Act.put, List.setIfInBounds_toArray, List.set_cons_zero, List.set_cons_succ]
      refine wpAnyH_take (i := 4) (oi := ⟨some 26, _, _, _, _, _⟩) (v := (.pointer (some ⟨g, 2 * k, none⟩))) rfl (by kernel_rfl) (by kernel_rfl) (by kernel_rfl) (fun _ _ _ h => h) (.inl ⟨by rfl, fun w hw => by dsimp only at hw; go_simp; rw [if_pos (by omega), show (2 * (k : Int)).toNat = 2 * k by omega]⟩) hHeld ?_
      simp only [Act.put, List.setIfInBounds_toArray, List.set_cons_zero, List.set_cons_succ]
      refine wpAnyH_take (i := 5) (oi := ⟨some 27, _, _, _, _, _⟩) (v := (.int .i64 (x1))) rfl (by kernel_rfl) (by kernel_rfl) (by kernel_rfl) (fun _ _ _ h => h) (.inl ⟨by rfl, fun w hw => by dsimp only at hw; go_simp⟩) hHeld ?_
      simp only [Act.put, List.setIfInBounds_toArray, List.set_cons_zero, List.set_cons_succ]
      refine wpAnyH_take (i := 6) (oi := ⟨some 28, _, _, _, _, _⟩) (v := (.slice (some ⟨g, 0, none⟩) (2 * fl.length) cap)) rfl (by kernel_rfl) (by kernel_rfl) (by kernel_rfl) (fun _ _ _ h => h) (.inl ⟨by rfl, fun w hw => by dsimp only at hw; go_simp⟩) hHeld ?_
      simp only [Act.put, List.setIfInBounds_toArray, List.set_cons_zero, List.set_cons_succ]
      refine wpAnyH_take (i := 7) (oi := ⟨some 29, _, _, _, _, _⟩) (v := (.int .i64 ((k : Int) + 1))) rfl (by kernel_rfl) (by kernel_rfl) (by kernel_rfl) (fun _ _ _ h => h) (.inl ⟨by rfl, fun w hw => by dsimp only at hw; go_simp⟩) hHeld ?_
      simp only [Act.put, List.setIfInBounds_toArray, List.set_cons_zero, List.set_cons_succ]
      refine wpAnyH_take (i := 8) (oi := ⟨some 30, _, _, _, _, _⟩) (v := (.int .i64 (2 * (k : Int) + 2))) rfl (by kernel_rfl) (by kernel_rfl) (by kernel_rfl) (fun _ _ _ h => h) (.inl ⟨by rfl, fun w hw => by dsimp only at hw; go_simp; try simp only [hwk1, hwk2, hwk3]⟩) hHeld ?_
      simp only [Act.put, List.setIfInBounds_toArray, List.set_cons_zero, List.set_cons_succ]
      refine wpAnyH_take (i := 9) (oi := ⟨some 31, _, _, _, _, _⟩) (v := (.int .i64 (2 * (k : Int) + 1))) rfl (by kernel_rfl) (by kernel_rfl) (by kernel_rfl) (fun _ _ _ h => h) (.inl ⟨by rfl, fun w hw => by dsimp only at hw; go_simp; try exact hwk4⟩) hHeld ?_
      simp only [Act.put, List.setIfInBounds_toArray, List.set_cons_zero, List.set_cons_succ]
      refine wpAnyH_take (i := 10) (oi := ⟨some 32, _, _, _, _, _⟩) (v := (.pointer (some ⟨g, 2 * k + 1, none⟩))) rfl (by kernel_rfl) (by kernel_rfl) (by kernel_rfl) (fun _ _ _ h => h) (.inl ⟨by rfl, fun w hw => by dsimp only at hw; go_simp; rw [if_pos (by omega), show (2 * (k : Int) + 1).toNat = 2 * k + 1 by omega]⟩) hHeld ?_
      simp only [Act.put, List.setIfInBounds_toArray, List.set_cons_zero, List.set_cons_succ]
      refine wpAnyH_take (i := 11) (oi := ⟨some 33, _, _, _, _, _⟩) (v := (.int .i64 (x2))) rfl (by kernel_rfl) (by kernel_rfl) (by kernel_rfl) (fun _ _ _ h => h) (.inl ⟨by rfl, fun w hw => by dsimp only at hw; go_simp⟩) hHeld ?_
      simp only [Act.put, List.setIfInBounds_toArray, List.set_cons_zero, List.set_cons_succ]
      refine wpAnyH_take (i := 12) (oi := ⟨some 6, _, _, _, _, _⟩) (v := (.int .i64 (x1))) rfl (by kernel_rfl) (by kernel_rfl) (by kernel_rfl) (fun _ _ _ h => h) (.inl ⟨by rfl, fun w hw => by dsimp only at hw; go_simp⟩) hHeld ?_
      simp only [Act.put, List.setIfInBounds_toArray, List.set_cons_zero, List.set_cons_succ]
      refine wpAnyH_take (i := 13) (oi := ⟨some 7, _, _, _, _, _⟩) (v := (.int .i64 (x2))) rfl (by kernel_rfl) (by kernel_rfl) (by kernel_rfl) (fun _ _ _ h => h) (.inl ⟨by rfl, fun w hw => by dsimp only at hw; go_simp⟩) hHeld ?_
      simp only [Act.put, List.setIfInBounds_toArray, List.set_cons_zero, List.set_cons_succ]
      refine wpAnyH_take (i := 14) (oi := ⟨some 8, _, _, _, _, _⟩) (v := (.bool (true))) rfl (by kernel_rfl) (by kernel_rfl) (by kernel_rfl) (fun _ _ _ h => h) (.inl ⟨by rfl, fun w hw => by dsimp only at hw; go_simp⟩) hHeld ?_
      simp only [Act.put, List.setIfInBounds_toArray, List.set_cons_zero, List.set_cons_succ]
      refine wpAnyH_done (by kernel_rfl) ?_ _
      have hF := HS.out.frm
      clear hHeld HS c0 c1
      go_wp2_with fail
      exact bodyPost_ret (results_tmp3 rfl _ _ _) rfl ⟨by rw [Hhit.out]; rfl, hF.drew⟩

set_option maxRecDepth 100000 in
set_option maxHeartbeats 4000000 in
theorem rcnt_any {v : Value} {ps : List Pc} (w : World) (s : ByteArray) (hb : s.size ≤ 9223372036854775) (hP : Pcs w v ps) (hsm : Small ps) (hn : ps.length ≤ 1000) :
    Calls Tryd.prog 53 #[v, .string s] w fun e w' => e = .returned (.int .i64 (findsL ps s.data.toList).length) ∧ Frm (fun _ => False) w w' := by
  have hl := size_list s
  have hfl := finds_len ps s.data.toList
  rw [hl] at hfl
  have hfi := rfinds_any w s (by omega) hP hsm hn
  generalize findsL ps s.data.toList = fl at *
  have Hfi := Lib.hid hfi
  clear hfi hP
  go_enter Tryd.func53, Tryd.ntmps53
  go_wp2_with fail
  refine Hfi.out.mono ?_
  rintro e w1 ⟨sp, rfl, hS⟩
  obtain ⟨ao, cap, rfl⟩ := hS.form
  have hF := hS.frm
  have hq : ((2 * fl.length : Nat) : Int).tdiv 2 = (fl.length : Int) := by rw [Int.tdiv_eq_ediv_of_nonneg (by omega)]; omega
  have hq2 : (2 * (fl.length : Int)).tdiv 2 = (fl.length : Int) := by rw [Int.tdiv_eq_ediv_of_nonneg (by omega)]; omega
  clear hS Hfi
  go_wp2_with fail
  go_ret
  exact ⟨rfl, hF⟩
end Go.Proofs.YtgnjakaamgeibaaDoor
