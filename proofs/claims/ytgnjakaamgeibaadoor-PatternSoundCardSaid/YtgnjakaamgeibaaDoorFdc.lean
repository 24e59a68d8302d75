/-
  pattern.Find, pattern.Count: what the code does. Conditions: the pieces lie in memory, few and short.
-/
import Derived.Test.YtgnjakaamgeibaaDoorMch
namespace Go.Proofs.YtgnjakaamgeibaaDoor
open Go.RowKit Go.Shelf
attribute [local go_sem] Oper.semAt_some

theorem finds_len (ps : List Pc) (s : List UInt8) : (findsL ps s).length ≤ s.length := by
  rw [findsL_eq]
  split
  · rcases spOk_len (fndA_ok ps s s.length 0 (by omega)) with h | h
    · rw [h]; exact Nat.zero_le _
    · omega
  · exact Nat.zero_le _
/-- What Find answers. -/
def findO (l : List (Nat × Nat)) (nth : Int) : Int × Int × Bool :=
  if 1 ≤ nth then (match l[(nth - 1).toNat]? with | some (a, b) => ((a : Int), (b : Int), true) | none => (0, 0, false)) else (0, 0, false)
theorem findO_hit {l pre : List (Nat × Nat)} {x : Nat × Nat} (h : pre ++ [x] <+: l) : findO l ((pre.length : Int) + 1) = ((x.1 : Int), (x.2 : Int), true) := by
  obtain ⟨t, rfl⟩ := h
  unfold findO
  rw [if_pos (by omega), show ((pre.length : Int) + 1 - 1).toNat = pre.length by omega, List.append_assoc, List.getElem?_append_right (Nat.le_refl _), Nat.sub_self]
  rfl
theorem findO_no {l : List (Nat × Nat)} {nth : Int} (h : ¬ (1 ≤ nth ∧ nth ≤ l.length)) : findO l nth = (0, 0, false) := by
  unfold findO
  split
  · rw [List.getElem?_eq_none (by omega)]
  · rfl
def fdL (nb r1 r2 r3 cb : Nat) (nth a b : Int) (ok : Bool) (c : Int) : List Thing := [cellT nb #[.int .i64 nth] 3, cellT r1 #[.int .i64 a] 3, cellT r2 #[.int .i64 b] 3, cellT r3 #[.bool ok] 4, cellT cb #[.int .i64 c] 3]
theorem find_results (tmps : Array Value) (w : World) (r1 r2 r3 : Nat) (a b : Int) (ok : Bool) (h1 : tmps[6]?.getD undef = .pointer (some ⟨r1, 0, none⟩)) (h2 : tmps[7]?.getD undef = .pointer (some ⟨r2, 0, none⟩)) (h3 : tmps[8]?.getD undef = .pointer (some ⟨r3, 0, none⟩)) (c1 : w.cell? ⟨r1, 0, none⟩ = some (.int .i64 a)) (c2 : w.cell? ⟨r2, 0, none⟩ = some (.int .i64 b)) (c3 : w.cell? ⟨r3, 0, none⟩ = some (.bool ok)) :
    (results Tryd.f50 tmps).run Tryd.prog w = .ok (.tuple #[.int .i64 a, .int .i64 b, .bool ok]) w := by
  simp [results, Tryd.results50, go_sem, h1, h2, h3, c1, c2, c3]

set_option maxRecDepth 100000 in
set_option maxHeartbeats 4000000 in
theorem find_any {v : Value} {ps : List Pc} (w : World) (s : ByteArray) (nth : Int) (hb : s.size ≤ 9223372036854775807) (hP : Pcs w v ps) (hsm : Small ps) (hn : ps.length ≤ 1000) (hT : Tabs w) :
    Calls Tryd.prog 50 #[v, .string s, .int .i64 nth] w fun e w' => e = .returned (.tuple #[.int .i64 (findO (findsL ps s.data.toList) nth).1, .int .i64 (findO (findsL ps s.data.toList) nth).2.1, .bool (findO (findsL ps s.data.toList) nth).2.2]) ∧ Frm (fun _ => False) w w' := by
  have hl := size_list s
  have hfl := finds_len ps s.data.toList
  obtain ⟨ao, cap, rfl⟩ := hP.form
  have HP := Lib.hid hP
  have HT := Lib.hid hT
  clear hP hT
  refine callsIn_wide.1 (callsIn_of_wp_marks (n := 5) Tryd.func50 rfl trivial (wpIn_wide.2 ?_) rfl)
  simp only [Tryd.ntmps50, List.size_toArray, List.length_cons, List.length_nil, Nat.reduceAdd, Nat.reduceSub, Array.replicate_succ, Array.replicate_zero, List.push_toArray, List.append_toArray, List.nil_append, List.cons_append]
  go_wp2_with fail
  have h1 := (((((Own.start w).box #[.int .i64 nth] 3).box #[.int .i64 0] 3).box #[.int .i64 0] 3).box #[.bool false] 4).box #[.int .i64 0] 3
  simp only [World.size_alloc] at h1
  obtain ⟨W5, hW5⟩ : ∃ W, W = (((((w.alloc (.cells #[.int .i64 nth] 3)).alloc (.cells #[.int .i64 0] 3)).alloc (.cells #[.int .i64 0] 3)).alloc (.cells #[.bool false] 4)).alloc (.cells #[.int .i64 0] 3)) := ⟨_, rfl⟩
  obtain ⟨cb, hcb⟩ : ∃ b, b = w.heap.size + 1 + 1 + 1 + 1 := ⟨_, rfl⟩
  obtain ⟨r3, hr3⟩ : ∃ b, b = w.heap.size + 1 + 1 + 1 := ⟨_, rfl⟩
  obtain ⟨r2, hr2⟩ : ∃ b, b = w.heap.size + 1 + 1 := ⟨_, rfl⟩
  obtain ⟨r1, hr1⟩ : ∃ b, b = w.heap.size + 1 := ⟨_, rfl⟩
  obtain ⟨nb, hnb⟩ : ∃ b, b = w.heap.size := ⟨_, rfl⟩
  rw [← hW5, ← hcb, ← hr3, ← hr2, ← hr1, ← hnb] at h1
  rw [← hW5, ← hcb, ← hr3, ← hr2, ← hr1, ← hnb]
  clear hW5 hcb hr3 hr2 hr1 hnb
  have h2 : Own w (fdL nb r1 r2 r3 cb nth 0 0 false 0) W5 := h1
  clear h1
  refine (finds_own _ s W5 ⟨_, _, _, rfl⟩).mono ?_
  rintro e w6 ⟨pp, pt, rfl, ho, f6⟩
  have h3 := ho _ _ h2
  clear h2 ho f6
  go_wp2_with fail
  refine wpIn_wide.1 (wpIn_range_at (F := Fence.wide) (n := 5) rfl (by decide) (gf := 124) (lb := #[.pointer (some ⟨pp, 0, none⟩), .pointer (some ⟨pt, 0, none⟩)]) rfl trivial (enters_of Tryd.func124 (by kernel_rfl) rfl)
    w (finds_iter 4 pp pt (by decide) (Frm.refl _ w) s hb HP.out hsm hn HT.out) (fun _ => rfl)
    (fun pre X => ¬ (1 ≤ nth ∧ nth ≤ pre.length) ∧ X = fdL nb r1 r2 r3 cb nth 0 0 false pre.length)
    (fun cd xs X => cd = .ret ∧ ∃ pre x, xs = pre ++ [x] ∧ xs <+: findsL ps s.data.toList ∧ nth = (pre.length : Int) + 1 ∧ X = fdL nb r1 r2 r3 cb nth (x.1 : Int) (x.2 : Int) true nth)
    (fdL nb r1 r2 r3 cb nth 0 0 false 0) h3 ⟨by simp; omega, rfl⟩ ?round ?done ?stop)
  case round =>
    rintro l pre x W L' ⟨hno, rfl⟩ hV
    have hlen : pre.length + 1 ≤ (findsL ps s.data.toList).length := by have := hV.length_le; simpa using this
    dsimp only [encP]
    gi_wp2_with fail
    refine ⟨trivial, ?_⟩
    intro M W2 hO2
    refine wpIn_block ?_
    obtain ⟨x1, y1⟩ := hO2.cell1 (x := nb) (v := .int .i64 nth) (t := 3) 0 rfl
    obtain ⟨x5, y5⟩ := hO2.cell1 (x := cb) (v := .int .i64 pre.length) (t := 3) 4 rfl
    have hO3 := hO2.store (x := cb) (cs := #[.int .i64 pre.length]) (t := 3) 4 rfl 0 (.int .i64 ((pre.length : Int) + 1))
    have HO3 := Lib.hid hO3
    have n1 := hO2.ne (x := nb) (y := cb) (cs := #[.int .i64 nth]) (ds := #[.int .i64 pre.length]) (t := 3) (u := 3) 0 4 rfl rfl (by decide)
    have nr1cb := hO2.ne (x := r1) (y := cb) (cs := #[.int .i64 0]) (ds := #[.int .i64 pre.length]) (t := 3) (u := 3) 1 4 rfl rfl (by decide)
    have ncbr1 := nr1cb.symm
    have nr2cb := hO2.ne (x := r2) (y := cb) (cs := #[.int .i64 0]) (ds := #[.int .i64 pre.length]) (t := 3) (u := 3) 2 4 rfl rfl (by decide)
    have ncbr2 := nr2cb.symm
    have nr3cb := hO2.ne (x := r3) (y := cb) (cs := #[.bool false]) (ds := #[.int .i64 pre.length]) (t := 4) (u := 3) 3 4 rfl rfl (by decide)
    have ncbr3 := nr3cb.symm
    have nr1r2 := hO2.ne (x := r1) (y := r2) (cs := #[.int .i64 0]) (ds := #[.int .i64 0]) (t := 3) (u := 3) 1 2 rfl rfl (by decide)
    have nr2r1 := nr1r2.symm
    have nr1r3 := hO2.ne (x := r1) (y := r3) (cs := #[.int .i64 0]) (ds := #[.bool false]) (t := 3) (u := 4) 1 3 rfl rfl (by decide)
    have nr3r1 := nr1r3.symm
    have nr2r3 := hO2.ne (x := r2) (y := r3) (cs := #[.int .i64 0]) (ds := #[.bool false]) (t := 3) (u := 4) 2 3 rfl rfl (by decide)
    have nr3r2 := nr2r3.symm
    obtain ⟨v1, z1⟩ := hO2.cell1 (x := r1) (v := .int .i64 0) (t := 3) 1 rfl
    obtain ⟨v2, z2⟩ := hO2.cell1 (x := r2) (v := .int .i64 0) (t := 3) 2 rfl
    obtain ⟨v3, z3⟩ := hO2.cell1 (x := r3) (v := .bool false) (t := 4) 3 rfl
    clear hO2 hO3
    by_cases he : (pre.length : Int) + 1 = nth
    · have HV := Lib.hid hV
      subst he
      clear hV hno
      have hO8 := ((HO3.out.store (x := r1) (cs := #[.int .i64 0]) (t := 3) 1 rfl 0 (.int .i64 x.1)).store (x := r2) (cs := #[.int .i64 0]) (t := 3) 2 rfl 0 (.int .i64 x.2)).store (x := r3) (cs := #[.bool false]) (t := 4) 3 rfl 0 (.bool true)
      have HO8 := Lib.hid hO8
      clear hO8 HO3
      gi_wp2_with fail
      exact ⟨_, ⟨rfl, pre, x, rfl, HV.out, rfl, rfl⟩, HO8.out⟩
    · have hbeq : ((pre.length : Int) + 1 == nth) = false := by rw [beq_eq_false_iff_ne]; exact he
      gi_wp2_with fail
      refine ⟨_, ⟨?_, rfl⟩, ?_⟩
      · rw [List.length_append, List.length_singleton]; omega
      · rw [List.length_append, List.length_singleton]; exact HO3.out
  case done =>
    rintro D xs W L' M rfl ⟨hno, rfl⟩ hO
    have HO := Lib.hid (own_mark (fdL nb r1 r2 r3 cb nth 0 0 false (findsL ps s.data.toList).length) [] M _ hO)
    have hno2 := findO_no hno
    have Hno := Lib.hid hno2
    have nr1r2 := hO.ne (x := r1) (y := r2) (cs := #[.int .i64 0]) (ds := #[.int .i64 0]) (t := 3) (u := 3) 1 2 rfl rfl (by decide)
    have nr2r1 := nr1r2.symm
    have nr1r3 := hO.ne (x := r1) (y := r3) (cs := #[.int .i64 0]) (ds := #[.bool false]) (t := 3) (u := 4) 1 3 rfl rfl (by decide)
    have nr3r1 := nr1r3.symm
    have nr2r3 := hO.ne (x := r2) (y := r3) (cs := #[.int .i64 0]) (ds := #[.bool false]) (t := 3) (u := 4) 2 3 rfl rfl (by decide)
    have nr3r2 := nr2r3.symm
    have z1 := (hO.cell1 (x := r1) (v := .int .i64 0) (t := 3) 1 rfl)
    have z2 := (hO.cell1 (x := r2) (v := .int .i64 0) (t := 3) 2 rfl)
    have z3 := (hO.cell1 (x := r3) (v := .bool false) (t := 4) 3 rfl)
    obtain ⟨z1, v1⟩ := z1
    obtain ⟨z2, v2⟩ := z2
    obtain ⟨z3, v3⟩ := z3
    have hO8 := ((HO.out.store (x := r1) (cs := #[.int .i64 0]) (t := 3) 1 rfl 0 (.int .i64 0)).store (x := r2) (cs := #[.int .i64 0]) (t := 3) 2 rfl 0 (.int .i64 0)).store (x := r3) (cs := #[.bool false]) (t := 4) 3 rfl 0 (.bool false)
    have HO8 := Lib.hid hO8
    clear hO hno hno2 hO8 HO
    gi_wp2_with fail
    go_wp2_with fail
    refine leaves_marks (L := fdL nb r1 r2 r3 cb nth 0 0 false (findsL ps s.data.toList).length) [D] _ HO8.out ?_
    intro W' hO'
    exact ⟨_, find_results _ _ r1 r2 r3 0 0 false rfl rfl rfl (hO'.cell1 (x := r1) (v := .int .i64 0) (t := 3) 1 rfl).1 (hO'.cell1 (x := r2) (v := .int .i64 0) (t := 3) 2 rfl).1 (hO'.cell1 (x := r3) (v := .bool false) (t := 4) 3 rfl).1, by rw [Hno.out], hO'.frm⟩
  case stop =>
    rintro D c xs W L' M - ⟨rfl, pre, x, rfl, hpre, hnth, rfl⟩ hO
    have HO := Lib.hid (own_mark (fdL nb r1 r2 r3 cb nth x.1 x.2 true nth) [] M _ hO)
    have hh := findO_hit hpre
    rw [← hnth] at hh
    have Hh := Lib.hid hh
    clear hO hh hpre hnth
    gi_wp2_with fail
    go_wp2_with fail
    refine leaves_marks (L := fdL nb r1 r2 r3 cb nth x.1 x.2 true nth) [D] _ HO.out ?_
    intro W' hO'
    exact ⟨_, find_results _ _ r1 r2 r3 x.1 x.2 true rfl rfl rfl (hO'.cell1 (x := r1) (v := .int .i64 x.1) (t := 3) 1 rfl).1 (hO'.cell1 (x := r2) (v := .int .i64 x.2) (t := 3) 2 rfl).1 (hO'.cell1 (x := r3) (v := .bool true) (t := 4) 3 rfl).1, by rw [Hh.out], hO'.frm⟩

set_option maxRecDepth 100000 in
set_option maxHeartbeats 4000000 in
theorem fcount_any {v : Value} {ps : List Pc} (w : World) (s : ByteArray) (hb : s.size ≤ 9223372036854775807) (hP : Pcs w v ps) (hsm : Small ps) (hn : ps.length ≤ 1000) (hT : Tabs w) :
    Calls Tryd.prog 52 #[v, .string s] w fun e w' => e = .returned (.int .i64 (findsL ps s.data.toList).length) ∧ Frm (fun _ => False) w w' := by
  have hl := size_list s
  have hfl := finds_len ps s.data.toList
  obtain ⟨ao, cap, rfl⟩ := hP.form
  have HP := Lib.hid hP
  have HT := Lib.hid hT
  clear hP hT
  refine callsIn_wide.1 (callsIn_of_wp_marks (n := 5) Tryd.func52 rfl trivial (wpIn_wide.2 ?_) rfl)
  simp only [Tryd.ntmps52, List.size_toArray, List.length_cons, List.length_nil, Nat.reduceAdd, Nat.reduceSub, Array.replicate_succ, Array.replicate_zero, List.push_toArray, List.append_toArray, List.nil_append, List.cons_append]
  go_wp2_with fail
  have h1 := (Own.start w).box #[.int .i64 0] 3
  obtain ⟨W5, hW5⟩ : ∃ W, W = w.alloc (.cells #[.int .i64 0] 3) := ⟨_, rfl⟩
  obtain ⟨cb, hcb⟩ : ∃ b, b = w.heap.size := ⟨_, rfl⟩
  rw [← hW5, ← hcb] at h1
  rw [← hW5, ← hcb]
  clear hW5 hcb
  have h2 : Own w [cellT cb #[.int .i64 ((0 : Nat) : Int)] 3] W5 := h1
  clear h1
  refine (finds_own _ s W5 ⟨_, _, _, rfl⟩).mono ?_
  rintro e w6 ⟨pp, pt, rfl, ho, f6⟩
  have h3 := ho _ _ h2
  clear h2 ho f6
  go_wp2_with fail
  refine wpIn_wide.1 (wpIn_range_at (F := Fence.wide) (n := 5) rfl (by decide) (gf := 124) (lb := #[.pointer (some ⟨pp, 0, none⟩), .pointer (some ⟨pt, 0, none⟩)]) rfl trivial (enters_of Tryd.func124 (by kernel_rfl) rfl)
    w (finds_iter 4 pp pt (by decide) (Frm.refl _ w) s hb HP.out hsm hn HT.out) (fun _ => rfl)
    (fun pre X => X = [cellT cb #[.int .i64 ((pre.length : Nat) : Int)] 3]) (fun _ _ _ => False) _ h3 rfl ?round ?done ?stop)
  case stop => exact fun _ _ _ _ _ _ _ h => h.elim
  case round =>
    rintro l pre x W L' rfl hV
    have hlen : pre.length + 1 ≤ (findsL ps s.data.toList).length := by have := hV.length_le; simpa using this
    dsimp only [encP]
    gi_wp2_with fail
    refine ⟨trivial, ?_⟩
    intro M W2 hO2
    refine wpIn_block ?_
    obtain ⟨x5, y5⟩ := hO2.cell1 (x := cb) (v := .int .i64 pre.length) (t := 3) 0 rfl
    have hO3 := hO2.store (x := cb) (cs := #[.int .i64 pre.length]) (t := 3) 0 rfl 0 (.int .i64 ((pre.length : Int) + 1))
    have HO3 := Lib.hid hO3
    clear hO2 hO3
    gi_wp2_with fail
    refine ⟨_, rfl, ?_⟩
    rw [List.length_append, List.length_singleton]
    exact HO3.out
  case done =>
    rintro D xs W L' M rfl rfl hO
    have HO := Lib.hid (own_mark [cellT cb #[.int .i64 (((findsL ps s.data.toList).length : Nat) : Int)] 3] [] M _ hO)
    have z1 := (hO.cell1 (x := cb) (v := .int .i64 (findsL ps s.data.toList).length) (t := 3) 0 rfl).1
    clear hO
    gi_wp2_with fail
    go_wp2_with fail
    refine leaves_marks (L := [cellT cb #[.int .i64 (((findsL ps s.data.toList).length : Nat) : Int)] 3]) [D] _ HO.out ?_
    intro W' hO'
    exact ⟨_, by simp [results, Tryd.results52, go_sem], rfl, hO'.frm⟩
end Go.Proofs.YtgnjakaamgeibaaDoor
