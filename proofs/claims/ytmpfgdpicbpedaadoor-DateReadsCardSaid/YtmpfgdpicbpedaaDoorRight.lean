/-
  date.right: what its code does. Conditions: the layout is within reach.
-/
import Derived.Test.YtmpfgdpicbpedaaDoorIter
import Derived.Test.YtmpfgdpicbpedaaDoorRange2
namespace Go.Proofs.YtmpfgdpicbpedaaDoor
open Go.RowKit Go.Shelf
attribute [local go_sem] Oper.semAt_some

/-! ### What is known behind some parts -/
def lastS : Bool → List (List UInt8) → Bool
  | s, [] => s
  | _, t :: r => lastS (shB t) r
theorem lastS_snoc : ∀ (l : List (List UInt8)) (s : Bool) (x : List UInt8), lastS s (l ++ [x]) = shB x
  | [], _, _ => rfl
  | t :: l, s, x => by rw [List.cons_append, lastS, lastS_snoc l]
theorem okP_snoc : ∀ (l : List (List UInt8)) (s : Bool) (x : List UInt8), okP s (l ++ [x]) = (okP s l && okT (lastS s l) x)
  | [], s, x => by rw [List.nil_append, okP, okP, okP, lastS]; simp
  | t :: l, s, x => by rw [List.cons_append, okP, okP, isF_short, okP_snoc l, lastS, Bool.and_assoc]
theorem okP_pre (l r : List (List UInt8)) (s : Bool) (h : okP s (l ++ r) = true) : okP s l = true := by
  induction l generalizing s with
  | nil => rfl
  | cons t l ih =>
    rw [List.cons_append, okP, Bool.and_eq_true] at h
    rw [okP, h.1, ih _ h.2]
    rfl
theorem cnt_snoc (c : UInt8) (l : List (List UInt8)) (x : List UInt8) : cnt c (l ++ [x]) = cnt c l + (if kind c x = true then 1 else 0) := by
  unfold cnt
  rw [List.filter_append, List.length_append, List.filter_cons]
  split <;> simp
theorem cnt_le (c : UInt8) (l : List (List UInt8)) : cnt c l ≤ l.length := List.length_filter_le _ _

/-- The blocks of right's variables. -/
def rgL (r a b c d : Nat) (res : Bool) (pre : List (List UInt8)) : List Thing :=
  [cellT r #[.bool res] 4, cellT a #[.int .i64 (cnt 89 pre)] 3, cellT b #[.int .i64 (cnt 77 pre)] 3, cellT c #[.int .i64 (cnt 68 pre)] 3, cellT d #[.bool (lastS false pre)] 4]

theorem rightB_long {l : List UInt8} (h : ¬ l.length ≤ 40) : rightB l = false := by
  unfold rightB
  rw [decide_eq_false h]
  rfl
theorem rightB_bad {l : List UInt8} {pre r : List (List UInt8)} (h : pre ++ r = parts l) (hb : okP false pre = false) : rightB l = false := by
  unfold rightB
  have : okP false (parts l) = false := by
    rw [Bool.eq_false_iff, ← h]
    intro hh
    rw [okP_pre _ _ _ hh] at hb
    cases hb
  rw [this]
  simp

theorem undef_no {b : Bool} (h : some undef = some (Value.bool b)) : False := by
  unfold undef at h
  cases h

theorem right_results (tmps : Array Value) (w : World) (a : Addr) (x : Value) (h1 : tmps[2]?.getD undef = .pointer (some a)) (c1 : w.cell? a = some x) (hx : x = .bool true ∨ x = .bool false) : (results Tryd.f43 tmps).run Tryd.prog w = .ok x w := by
  rcases hx with rfl | rfl <;> simp [results, Tryd.results43, go_sem, h1, c1]
theorem rightB_val {l : List UInt8} (h : l.length ≤ 40) (hok : okP false (parts l) = true) : rightB l = (cnt 89 (parts l) == 1 && cnt 77 (parts l) == 1 && cnt 68 (parts l) == 1) := by
  unfold rightB
  rw [decide_eq_true h, hok]
  rfl

set_option maxRecDepth 100000 in
set_option maxHeartbeats 8000000 in
theorem dright_any (s : ByteArray) (hs : s.size ≤ 9223372036854775807) (w : World) : Calls Tryd.prog 43 #[.string s] w fun e w' => e = .returned (.bool (rightB s.data.toList)) ∧ Frm (fun _ => False) w w' := by
  have hl := size_toList s
  by_cases h40 : s.size ≤ 40
  · have Hl := Lib.hid hl
    clear hl
    have hpl : (parts s.data.toList).length ≤ 40 := by have := parts_len s.data.toList; have := Hl.out; omega
    have h40' : (s.size : Int) ≤ 40 := by omega
    refine callsIn_wide.1 (callsIn_of_wp_marks (n := 5) Tryd.func43 rfl trivial (wpIn_wide.2 ?_) rfl)
    simp only [Tryd.ntmps43, List.size_toArray, List.length_cons, List.length_nil, Nat.reduceAdd, Nat.reduceSub, Array.replicate_succ, Array.replicate_zero, List.push_toArray, List.append_toArray, List.nil_append, List.cons_append]
    go_wp2_with fail
    have h1 := (((((Own.start w).box #[.bool false] 4).box #[.int .i64 0] 3).box #[.int .i64 0] 3).box #[.int .i64 0] 3).box #[.bool false] 4
    simp only [World.size_alloc] at h1
    obtain ⟨W5, hW5⟩ : ∃ W, W = (((((w.alloc (.cells #[.bool false] 4)).alloc (.cells #[.int .i64 0] 3)).alloc (.cells #[.int .i64 0] 3)).alloc (.cells #[.int .i64 0] 3)).alloc (.cells #[.bool false] 4)) := ⟨_, rfl⟩
    obtain ⟨d, hd⟩ : ∃ b, b = w.heap.size + 1 + 1 + 1 + 1 := ⟨_, rfl⟩
    obtain ⟨c, hc⟩ : ∃ b, b = w.heap.size + 1 + 1 + 1 := ⟨_, rfl⟩
    obtain ⟨b, hb⟩ : ∃ b, b = w.heap.size + 1 + 1 := ⟨_, rfl⟩
    obtain ⟨a, ha⟩ : ∃ b, b = w.heap.size + 1 := ⟨_, rfl⟩
    obtain ⟨r, hr⟩ : ∃ b, b = w.heap.size := ⟨_, rfl⟩
    rw [← hW5, ← hd, ← hc, ← hb, ← ha, ← hr] at h1
    rw [← hW5, ← hd, ← hc, ← hb, ← ha, ← hr]
    clear hW5 hd hc hb ha hr
    refine (tokens_any s W5).mono ?_
    rintro e w6 ⟨rfl, rfl⟩
    have h2 := h1.box #[.string s] 9
    obtain ⟨cl, hcl⟩ : ∃ b, b = W5.heap.size := ⟨_, rfl⟩
    obtain ⟨W6, hW6⟩ : ∃ W, W = W5.alloc (.cells #[.string s] 9) := ⟨_, rfl⟩
    rw [← hcl, ← hW6] at h2
    rw [← hcl, ← hW6]
    have h3 : Own w (rgL r a b c d false [] ++ [cellT cl #[.string s] 9]) W6 := h2
    clear hcl hW6 h1 h2
    go_wp2_with fail
    refine wpIn_wide.1 (wpIn_range_box (F := Fence.wide) (n := 5) rfl (by decide) (gf := 58) (lb := #[.pointer (some ⟨cl, 0, none⟩)]) rfl trivial (enters_of Tryd.func58 (by kernel_rfl) rfl)
      (tokens_iter 4 cl (by decide) s (by omega)) (fun _ => rfl) w
      (fun pre X => okP false pre = true ∧ X = rgL r a b c d false pre)
      (fun cd pre X => cd = .ret ∧ okP false pre = false ∧ ∃ q, X = rgL r a b c d false q)
      (rgL r a b c d false []) h3 ⟨rfl, rfl⟩ ?round ?done ?stop)
    case round =>
      rintro l pre x W L' M ⟨hok, rfl⟩ hpre hO
      dsimp only [encT]
      have hx : Form x := by
        obtain ⟨t, ht⟩ := hpre
        exact parts_form s.data.toList x (by rw [← ht]; simp)
      have hpl2 : pre.length + 1 ≤ 40 := by
        obtain ⟨t, ht⟩ := hpre
        rw [← ht] at hpl
        simp at hpl
        omega
      have Hok := Lib.hid hok
      clear hok
      unfold tokV strV
      obtain ⟨xs, hxs⟩ : ∃ xs : ByteArray, (⟨x.toArray⟩ : ByteArray) = xs := ⟨_, rfl⟩
      rw [hxs]
      have h5 := Own.swap _ _ (hO.box #[.string xs, .bool (isF x)] 74)
      gi_wp2
      obtain ⟨tb, htb⟩ : ∃ b, b = W.heap.size := ⟨_, rfl⟩
      rw [← htb] at h5 ⊢
      refine ⟨cellT tb #[.string xs, .bool (isF x)] 74 :: rgL r a b c d false pre, h5, ?_⟩
      clear hO h5 htb
      intro M2 W2 hO2
      obtain ⟨t0, t1, -, -⟩ := cells2 (hO2.obj (x := tb) (cs := #[.string xs, .bool (isF x)]) (t := 74) 0 rfl)
      obtain ⟨x1, y1⟩ := hO2.cell1 (x := r) (v := .bool false) (t := 4) 1 rfl
      obtain ⟨x2, y2⟩ := hO2.cell1 (x := a) (v := .int .i64 (cnt 89 pre)) (t := 3) 2 rfl
      obtain ⟨x3, y3⟩ := hO2.cell1 (x := b) (v := .int .i64 (cnt 77 pre)) (t := 3) 3 rfl
      obtain ⟨x4, y4⟩ := hO2.cell1 (x := c) (v := .int .i64 (cnt 68 pre)) (t := 3) 4 rfl
      obtain ⟨x5, y5⟩ := hO2.cell1 (x := d) (v := .bool (lastS false pre)) (t := 4) 5 rfl
      have b1 := cnt_le 89 pre
      have b2 := cnt_le 77 pre
      have b3 := cnt_le 68 pre
      have ndt := hO2.ne (x := d) (y := tb) (cs := #[.bool (lastS false pre)]) (ds := #[.string xs, .bool (isF x)]) (t := 4) (u := 74) 5 0 rfl rfl (by decide)
      have ntd := ndt.symm
      have nda := hO2.ne (x := d) (y := a) (cs := #[.bool (lastS false pre)]) (ds := #[.int .i64 (cnt 89 pre)]) (t := 4) (u := 3) 5 2 rfl rfl (by decide)
      have nad := nda.symm
      have ndb := hO2.ne (x := d) (y := b) (cs := #[.bool (lastS false pre)]) (ds := #[.int .i64 (cnt 77 pre)]) (t := 4) (u := 3) 5 3 rfl rfl (by decide)
      have nbd := ndb.symm
      have ndc := hO2.ne (x := d) (y := c) (cs := #[.bool (lastS false pre)]) (ds := #[.int .i64 (cnt 68 pre)]) (t := 4) (u := 3) 5 4 rfl rfl (by decide)
      have ncd := ndc.symm
      have hO3 : Own w (cellT tb #[.string xs, .bool (isF x)] 74 :: cellT r #[.bool false] 4 :: cellT a #[.int .i64 (cnt 89 pre)] 3 :: cellT b #[.int .i64 (cnt 77 pre)] 3 :: cellT c #[.int .i64 (cnt 68 pre)] 3 :: cellT d #[.bool (lastS false pre)] 4 :: M2) W2 := hO2
      clear hO2
      have hs1 := okP_snoc pre false x
      have c1 := cnt_snoc 89 pre x
      have c2 := cnt_snoc 77 pre x
      have c3 := cnt_snoc 68 pre x
      have l1 := lastS_snoc pre false x
      generalize hA : cnt 89 pre = A at *
      generalize hB : cnt 77 pre = B at *
      generalize hC : cnt 68 pre = C at *
      generalize hS : lastS false pre = S at *
      cases hx with
      | field hf =>
        rw [hf] at t1 hO3
        rcases field_cases hf with hx | hx | hx | hx | hx
        · subst hx
          obtain rfl : xs = ⟨#[89, 89, 89, 89]⟩ := hxs.symm
          cases S
          · have hok2 : okP false (pre ++ [fY]) = true := by rw [hs1, Hok.out]; rfl
            have hX : rgL r a b c d false (pre ++ [fY]) = [cellT r #[.bool false] 4, cellT a #[.int .i64 ((A + 1 : Nat) : Int)] 3, cellT b #[.int .i64 ((B : Nat) : Int)] 3, cellT c #[.int .i64 ((C : Nat) : Int)] 3, cellT d #[.bool false] 4] := by
              unfold rgL
              rw [c1, c2, c3, l1]
              rfl
            have HX := Lib.hid hX
            have Hok2 := Lib.hid hok2
            clear hX hok2 hs1 c1 c2 c3 l1 hxs hf hA hB hC hS
            gi_wp2_with fail
            refine ⟨trivial, ?_⟩
            gi_wp2_with fail
            have h8 := ((hO3.store 5 rfl 0 (.bool false)).store 2 rfl 0 (.int .i64 ((A : Int) + 1))).tail
            exact ⟨_, ⟨Hok2.out, rfl⟩, by rw [HX.out]; exact h8⟩
          · have hok2 : okP false (pre ++ [fY]) = false := by rw [hs1, Hok.out]; rfl
            have hX : rgL r a b c d false pre = [cellT r #[.bool false] 4, cellT a #[.int .i64 (A : Int)] 3, cellT b #[.int .i64 (B : Int)] 3, cellT c #[.int .i64 (C : Int)] 3, cellT d #[.bool true] 4] := by
              unfold rgL
              rw [hA, hB, hC, hS]
            have HX := Lib.hid hX
            have Hok2 := Lib.hid hok2
            clear hX hok2 hs1 c1 c2 c3 l1 hxs hf hA hB hC hS
            gi_wp2_with fail
            all_goals try exact (undef_no (by assumption)).elim
            refine ⟨trivial, ?_⟩
            gi_wp2_with fail
            have h8 := (hO3.store 1 rfl 0 (.bool false)).tail
            exact ⟨_, ⟨rfl, Hok2.out, pre, rfl⟩, by rw [HX.out]; exact h8⟩
        · subst hx
          obtain rfl : xs = ⟨#[77, 77]⟩ := hxs.symm
          cases S
          · have hok2 : okP false (pre ++ [fMM]) = true := by rw [hs1, Hok.out]; rfl
            have hX : rgL r a b c d false (pre ++ [fMM]) = [cellT r #[.bool false] 4, cellT a #[.int .i64 ((A : Nat) : Int)] 3, cellT b #[.int .i64 ((B + 1 : Nat) : Int)] 3, cellT c #[.int .i64 ((C : Nat) : Int)] 3, cellT d #[.bool false] 4] := by
              unfold rgL
              rw [c1, c2, c3, l1]
              rfl
            have HX := Lib.hid hX
            have Hok2 := Lib.hid hok2
            clear hX hok2 hs1 c1 c2 c3 l1 hxs hf hA hB hC hS
            gi_wp2_with fail
            refine ⟨trivial, ?_⟩
            gi_wp2_with fail
            have h8 := ((hO3.store 5 rfl 0 (.bool false)).store 3 rfl 0 (.int .i64 ((B : Int) + 1))).tail
            exact ⟨_, ⟨Hok2.out, rfl⟩, by rw [HX.out]; exact h8⟩
          · have hok2 : okP false (pre ++ [fMM]) = false := by rw [hs1, Hok.out]; rfl
            have hX : rgL r a b c d false pre = [cellT r #[.bool false] 4, cellT a #[.int .i64 (A : Int)] 3, cellT b #[.int .i64 (B : Int)] 3, cellT c #[.int .i64 (C : Int)] 3, cellT d #[.bool true] 4] := by
              unfold rgL
              rw [hA, hB, hC, hS]
            have HX := Lib.hid hX
            have Hok2 := Lib.hid hok2
            clear hX hok2 hs1 c1 c2 c3 l1 hxs hf hA hB hC hS
            gi_wp2_with fail
            all_goals try exact (undef_no (by assumption)).elim
            refine ⟨trivial, ?_⟩
            gi_wp2_with fail
            have h8 := (hO3.store 1 rfl 0 (.bool false)).tail
            exact ⟨_, ⟨rfl, Hok2.out, pre, rfl⟩, by rw [HX.out]; exact h8⟩
        · subst hx
          obtain rfl : xs = ⟨#[77]⟩ := hxs.symm
          cases S
          · have hok2 : okP false (pre ++ [fM]) = true := by rw [hs1, Hok.out]; rfl
            have hX : rgL r a b c d false (pre ++ [fM]) = [cellT r #[.bool false] 4, cellT a #[.int .i64 ((A : Nat) : Int)] 3, cellT b #[.int .i64 ((B + 1 : Nat) : Int)] 3, cellT c #[.int .i64 ((C : Nat) : Int)] 3, cellT d #[.bool true] 4] := by
              unfold rgL
              rw [c1, c2, c3, l1]
              rfl
            have HX := Lib.hid hX
            have Hok2 := Lib.hid hok2
            clear hX hok2 hs1 c1 c2 c3 l1 hxs hf hA hB hC hS
            gi_wp2_with fail
            refine ⟨trivial, ?_⟩
            gi_wp2_with fail
            have h8 := ((hO3.store 5 rfl 0 (.bool true)).store 3 rfl 0 (.int .i64 ((B : Int) + 1))).tail
            exact ⟨_, ⟨Hok2.out, rfl⟩, by rw [HX.out]; exact h8⟩
          · have hok2 : okP false (pre ++ [fM]) = false := by rw [hs1, Hok.out]; rfl
            have hX : rgL r a b c d false pre = [cellT r #[.bool false] 4, cellT a #[.int .i64 (A : Int)] 3, cellT b #[.int .i64 (B : Int)] 3, cellT c #[.int .i64 (C : Int)] 3, cellT d #[.bool true] 4] := by
              unfold rgL
              rw [hA, hB, hC, hS]
            have HX := Lib.hid hX
            have Hok2 := Lib.hid hok2
            clear hX hok2 hs1 c1 c2 c3 l1 hxs hf hA hB hC hS
            gi_wp2_with fail
            all_goals try exact (undef_no (by assumption)).elim
            refine ⟨trivial, ?_⟩
            gi_wp2_with fail
            have h8 := (hO3.store 1 rfl 0 (.bool false)).tail
            exact ⟨_, ⟨rfl, Hok2.out, pre, rfl⟩, by rw [HX.out]; exact h8⟩
        · subst hx
          obtain rfl : xs = ⟨#[68, 68]⟩ := hxs.symm
          cases S
          · have hok2 : okP false (pre ++ [fDD]) = true := by rw [hs1, Hok.out]; rfl
            have hX : rgL r a b c d false (pre ++ [fDD]) = [cellT r #[.bool false] 4, cellT a #[.int .i64 ((A : Nat) : Int)] 3, cellT b #[.int .i64 ((B : Nat) : Int)] 3, cellT c #[.int .i64 ((C + 1 : Nat) : Int)] 3, cellT d #[.bool false] 4] := by
              unfold rgL
              rw [c1, c2, c3, l1]
              rfl
            have HX := Lib.hid hX
            have Hok2 := Lib.hid hok2
            clear hX hok2 hs1 c1 c2 c3 l1 hxs hf hA hB hC hS
            gi_wp2_with fail
            refine ⟨trivial, ?_⟩
            gi_wp2_with fail
            have h8 := ((hO3.store 5 rfl 0 (.bool false)).store 4 rfl 0 (.int .i64 ((C : Int) + 1))).tail
            exact ⟨_, ⟨Hok2.out, rfl⟩, by rw [HX.out]; exact h8⟩
          · have hok2 : okP false (pre ++ [fDD]) = false := by rw [hs1, Hok.out]; rfl
            have hX : rgL r a b c d false pre = [cellT r #[.bool false] 4, cellT a #[.int .i64 (A : Int)] 3, cellT b #[.int .i64 (B : Int)] 3, cellT c #[.int .i64 (C : Int)] 3, cellT d #[.bool true] 4] := by
              unfold rgL
              rw [hA, hB, hC, hS]
            have HX := Lib.hid hX
            have Hok2 := Lib.hid hok2
            clear hX hok2 hs1 c1 c2 c3 l1 hxs hf hA hB hC hS
            gi_wp2_with fail
            all_goals try exact (undef_no (by assumption)).elim
            refine ⟨trivial, ?_⟩
            gi_wp2_with fail
            have h8 := (hO3.store 1 rfl 0 (.bool false)).tail
            exact ⟨_, ⟨rfl, Hok2.out, pre, rfl⟩, by rw [HX.out]; exact h8⟩
        · subst hx
          obtain rfl : xs = ⟨#[68]⟩ := hxs.symm
          cases S
          · have hok2 : okP false (pre ++ [fD]) = true := by rw [hs1, Hok.out]; rfl
            have hX : rgL r a b c d false (pre ++ [fD]) = [cellT r #[.bool false] 4, cellT a #[.int .i64 ((A : Nat) : Int)] 3, cellT b #[.int .i64 ((B : Nat) : Int)] 3, cellT c #[.int .i64 ((C + 1 : Nat) : Int)] 3, cellT d #[.bool true] 4] := by
              unfold rgL
              rw [c1, c2, c3, l1]
              rfl
            have HX := Lib.hid hX
            have Hok2 := Lib.hid hok2
            clear hX hok2 hs1 c1 c2 c3 l1 hxs hf hA hB hC hS
            gi_wp2_with fail
            refine ⟨trivial, ?_⟩
            gi_wp2_with fail
            have h8 := ((hO3.store 5 rfl 0 (.bool true)).store 4 rfl 0 (.int .i64 ((C : Int) + 1))).tail
            exact ⟨_, ⟨Hok2.out, rfl⟩, by rw [HX.out]; exact h8⟩
          · have hok2 : okP false (pre ++ [fD]) = false := by rw [hs1, Hok.out]; rfl
            have hX : rgL r a b c d false pre = [cellT r #[.bool false] 4, cellT a #[.int .i64 (A : Int)] 3, cellT b #[.int .i64 (B : Int)] 3, cellT c #[.int .i64 (C : Int)] 3, cellT d #[.bool true] 4] := by
              unfold rgL
              rw [hA, hB, hC, hS]
            have HX := Lib.hid hX
            have Hok2 := Lib.hid hok2
            clear hX hok2 hs1 c1 c2 c3 l1 hxs hf hA hB hC hS
            gi_wp2_with fail
            all_goals try exact (undef_no (by assumption)).elim
            refine ⟨trivial, ?_⟩
            gi_wp2_with fail
            have h8 := (hO3.store 1 rfl 0 (.bool false)).tail
            exact ⟨_, ⟨rfl, Hok2.out, pre, rfl⟩, by rw [HX.out]; exact h8⟩
      | one q hq q1 q2 =>
        have hn := one_notF q1 q2
        subst hq
        rw [hn] at t1 hO3
        obtain rfl : xs = ⟨#[q]⟩ := hxs.symm
        cases hp : plainB q
        · have hok2 : okP false (pre ++ [[q]]) = false := by rw [hs1, Hok.out]; unfold okT; rw [hn]; simp [hp]
          have hX : rgL r a b c d false pre = [cellT r #[.bool false] 4, cellT a #[.int .i64 (A : Int)] 3, cellT b #[.int .i64 (B : Int)] 3, cellT c #[.int .i64 (C : Int)] 3, cellT d #[.bool S] 4] := by
            unfold rgL
            rw [hA, hB, hC, hS]
          have hpl := plain_any q W2
          rw [hp] at hpl
          have Hpl := Lib.hid hpl
          have HX := Lib.hid hX
          have Hok2 := Lib.hid hok2
          clear hX hok2 hs1 c1 c2 c3 l1 hxs hn hA hB hC hS hp hpl
          gi_wp2_with fail
          refine ⟨trivial, CallsIn.inRound l (callsIn_wide.2 Hpl.out) |>.mono ?_⟩
          rintro e w5 ⟨rfl, rfl⟩
          gi_wp2_with fail
          have h8 := (hO3.store 1 rfl 0 (.bool false)).tail
          exact ⟨_, ⟨rfl, Hok2.out, pre, rfl⟩, by rw [HX.out]; exact h8⟩
        · have hok2 : okP false (pre ++ [[q]]) = true := by rw [hs1, Hok.out]; unfold okT; rw [hn]; simp [hp]
          have hk : ∀ x, kind x [q] = false := fun x => by unfold kind; rw [hn]; rfl
          have hsq : shB [q] = false := by rw [← isF_short, hn]; rfl
          have hX : rgL r a b c d false (pre ++ [[q]]) = [cellT r #[.bool false] 4, cellT a #[.int .i64 (A : Int)] 3, cellT b #[.int .i64 (B : Int)] 3, cellT c #[.int .i64 (C : Int)] 3, cellT d #[.bool false] 4] := by
            unfold rgL
            rw [c1, c2, c3, l1, hk, hk, hk, hsq]
            rfl
          have hpl := plain_any q W2
          rw [hp] at hpl
          have Hpl := Lib.hid hpl
          have HX := Lib.hid hX
          have Hok2 := Lib.hid hok2
          clear hX hok2 hs1 c1 c2 c3 l1 hxs hn hA hB hC hS hp hpl hk hsq
          gi_wp2_with fail
          refine ⟨trivial, CallsIn.inRound l (callsIn_wide.2 Hpl.out) |>.mono ?_⟩
          rintro e w5 ⟨rfl, rfl⟩
          gi_wp2_with fail
          have h8 := (hO3.store 5 rfl 0 (.bool false)).tail
          exact ⟨_, ⟨Hok2.out, rfl⟩, by rw [HX.out]; exact h8⟩
    case done =>
      rintro D3 xs W L' M rfl ⟨hok, rfl⟩ hO
      have hv := rightB_val (by have := Hl.out; omega) hok
      have hO3 : Own w (cellT r #[.bool false] 4 :: cellT a #[.int .i64 (cnt 89 (parts s.data.toList))] 3 :: cellT b #[.int .i64 (cnt 77 (parts s.data.toList))] 3 :: cellT c #[.int .i64 (cnt 68 (parts s.data.toList))] 3 :: cellT d #[.bool (lastS false (parts s.data.toList))] 4 :: (M ++ [blockT D3 (.deferred (some []))])) W := hO
      have Hv := Lib.hid hv
      clear hO hok hv
      obtain ⟨x1, y1⟩ := hO3.cell1 (x := r) (v := .bool false) (t := 4) 0 rfl
      obtain ⟨x2, y2⟩ := hO3.cell1 (x := a) (v := .int .i64 (cnt 89 (parts s.data.toList))) (t := 3) 1 rfl
      obtain ⟨x3, y3⟩ := hO3.cell1 (x := b) (v := .int .i64 (cnt 77 (parts s.data.toList))) (t := 3) 2 rfl
      obtain ⟨x4, y4⟩ := hO3.cell1 (x := c) (v := .int .i64 (cnt 68 (parts s.data.toList))) (t := 3) 3 rfl
      have fin : ∀ v : Bool, (W.setCell ⟨r, 0, none⟩ (.bool v)).cell? ⟨r, 0, none⟩ = some (.bool v) ∧ Own w (blockT D3 (.deferred (some [])) :: []) (W.setCell ⟨r, 0, none⟩ (.bool v)) := by
        intro v
        have h := hO3.store 0 rfl 0 (.bool v)
        refine ⟨(h.cell1 (x := r) (v := .bool v) (t := 4) 0 rfl).1, ?_⟩
        refine h.reidx (fun _ => 5 + M.length) (fun j U hj => ?_) (fun i j hi hj _ => by simp at hi hj; omega)
        cases j with
        | zero =>
          have hU : blockT D3 (.deferred (some [])) = U := by simpa using hj
          subst hU
          rw [show 5 + M.length = M.length + 1 + 1 + 1 + 1 + 1 by omega]
          show (M ++ [blockT D3 (.deferred (some []))])[M.length]? = _
          rw [List.getElem?_append_right (Nat.le_refl _), Nat.sub_self]
          rfl
        | succ j => simp at hj
      have Fin := Lib.hid fin
      clear fin
      generalize cnt 89 (parts s.data.toList) = A at x2 Hv hO3
      generalize cnt 77 (parts s.data.toList) = B at x3 Hv hO3
      generalize cnt 68 (parts s.data.toList) = C at x4 Hv hO3
      clear hO3
      have key : ∀ n : Nat, ((n == 1) = true ∧ ((n : Int) == 1) = true) ∨ ((n == 1) = false ∧ ((n : Int) == 1) = false) := by
        intro n
        by_cases h : n = 1
        · subst h; exact .inl ⟨rfl, rfl⟩
        · exact .inr ⟨by simpa using h, by rw [beq_eq_false_iff_ne]; omega⟩
      have hA := key A
      have hB := key B
      have hC := key C
      clear key
      rcases hA with ⟨a1, a2⟩ | ⟨a1, a2⟩ <;> rcases hB with ⟨b1, b2⟩ | ⟨b1, b2⟩ <;> rcases hC with ⟨c1, c2⟩ | ⟨c1, c2⟩
      all_goals
        have hv := Hv.out
        rw [a1, b1, c1] at hv
        simp only [Bool.and_true, Bool.and_false] at hv
        have Hv2 := Lib.hid hv
        clear hv Hv a1 b1 c1
        go_wp2_with fail
        obtain ⟨f1, f2⟩ := Fin.out _
        have hK := f2.blk 0 rfl
        refine ⟨by simp, .inl ⟨D3, _, rfl, run_takeDeferred hK, ?_⟩⟩
        have f3 := (f2.putBlk 0 rfl (.deferred none)).tail
        refine ⟨_, right_results _ _ ⟨r, 0, none⟩ _ rfl (cell_put hK f1) (by simp), by rw [Hv2.out], f3.frm⟩
    case stop =>
      rintro D3 c3 pre W L' M ⟨t, ht⟩ ⟨rfl, hok, q, rfl⟩ hO
      have hv := rightB_bad ht hok
      have hO3 : Own w (cellT r #[.bool false] 4 :: cellT a #[.int .i64 (cnt 89 q)] 3 :: cellT b #[.int .i64 (cnt 77 q)] 3 :: cellT c #[.int .i64 (cnt 68 q)] 3 :: cellT d #[.bool (lastS false q)] 4 :: (M ++ [blockT D3 (.deferred (some []))])) W := hO
      have Hv := Lib.hid hv
      clear hO hok hv ht
      obtain ⟨x1, y1⟩ := hO3.cell1 (x := r) (v := .bool false) (t := 4) 0 rfl
      have hF : Own w (blockT D3 (.deferred (some [])) :: []) W := by
        refine hO3.reidx (fun _ => 5 + M.length) (fun j U hj => ?_) (fun i j hi hj _ => by simp at hi hj; omega)
        cases j with
        | zero =>
          have hU : blockT D3 (.deferred (some [])) = U := by simpa using hj
          subst hU
          rw [show 5 + M.length = M.length + 1 + 1 + 1 + 1 + 1 by omega]
          show (M ++ [blockT D3 (.deferred (some []))])[M.length]? = _
          rw [List.getElem?_append_right (Nat.le_refl _), Nat.sub_self]
          rfl
        | succ j => simp at hj
      have hK := hF.blk 0 rfl
      gi_wp2
      refine ⟨by simp, .inl ⟨D3, _, rfl, run_takeDeferred hK, ?_⟩⟩
      have f3 := (hF.putBlk 0 rfl (.deferred none)).tail
      refine ⟨_, right_results _ _ ⟨r, 0, none⟩ _ rfl (cell_put hK x1) (by simp), by rw [Hv.out], f3.frm⟩
  · have hv := rightB_long (l := s.data.toList) (by omega)
    have Hv := Lib.hid hv
    have h40' : (40 : Int) < s.size := by omega
    clear hv hl
    refine callsIn_wide.1 (callsIn_of_wp_marks (n := 5) Tryd.func43 rfl trivial (wpIn_wide.2 ?_) rfl)
    simp only [Tryd.ntmps43, List.size_toArray, List.length_cons, List.length_nil, Nat.reduceAdd, Nat.reduceSub, Array.replicate_succ, Array.replicate_zero, List.push_toArray, List.append_toArray, List.nil_append, List.cons_append]
    go_wp2_with fail
    have h1 := (Own.start w).box #[.bool false] 4
    obtain ⟨x1, -⟩ := h1.cell1 (x := w.heap.size) (v := .bool false) (t := 4) 0 rfl
    exact ⟨_, right_results _ _ ⟨w.heap.size, 0, none⟩ (.bool false) rfl x1 (.inr rfl), by rw [Hv.out], h1.frm⟩
end Go.Proofs.YtmpfgdpicbpedaaDoor
