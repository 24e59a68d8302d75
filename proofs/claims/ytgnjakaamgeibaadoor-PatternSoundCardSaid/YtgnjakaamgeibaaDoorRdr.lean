/-
  The reader of a pattern's written form: peek, fail, number, braces, count. Conditions: the reader lies in memory, its string is short.
-/
import Derived.Test.YtgnjakaamgeibaaDoorPcs
import Derived.Deep.QuietTactic
import Derived.Deep.Cut
import Derived.WalkSmall
import Derived.BigQuiet
namespace Go.Proofs.YtgnjakaamgeibaaDoor
open Go.RowKit Go.Shelf
attribute [local go_sem] Oper.semAt_some

/-- The reader in its block. -/
def RdAt (w : World) (x : Nat) (s : ByteArray) (i : Nat) (v : Value) : Prop := w.heap[x]? = some (.cells #[.string s, .int .i64 i, v] 97 (0, 0))
theorem rd_cells {w : World} {x : Nat} {s : ByteArray} {i : Nat} {v : Value} (h : RdAt w x s i v) :
    w.cell? ⟨x, 0, none⟩ = some (.string s) ∧ w.cell? ⟨x, 1, none⟩ = some (.int .i64 i) ∧ w.cell? ⟨x, 2, none⟩ = some v ∧ w.frozen? ⟨x, 1, none⟩ = false ∧ w.frozen? ⟨x, 2, none⟩ = false := by
  unfold RdAt at h
  refine ⟨?_, ?_, ?_, frozen_of_row w x 1 _ _ h, frozen_of_row w x 2 _ _ h⟩
  all_goals (rw [cell_of_row w x _ _ _ _ h]; rfl)
theorem RdAt.still {w w' : World} {x : Nat} {s : ByteArray} {i : Nat} {v : Value} (h : RdAt w x s i v) (hf : Frm (fun _ => False) w w') : RdAt w' x s i v := hf.heap h (fun h => h)
theorem RdAt.next {w : World} {x : Nat} {s : ByteArray} {i : Nat} {v : Value} (h : RdAt w x s i v) (j : Nat) : RdAt (w.setCell ⟨x, 1, none⟩ (.int .i64 j)) x s j v := by
  unfold RdAt at h ⊢
  rw [heap_set h]; rfl
theorem RdAt.put {w : World} {x : Nat} {s : ByteArray} {i : Nat} {v : Value} (h : RdAt w x s i v) (u : Value) : RdAt (w.setCell ⟨x, 2, none⟩ u) x s i u := by
  unfold RdAt at h ⊢
  rw [heap_set h]; rfl
theorem frm_at {w w' : World} {x j : Nat} {v : Value} (h : Frm (fun k => k = x) w w') : Frm (fun k => k = x) w (w'.setCell ⟨x, j, none⟩ v) := h.setCell (p := ⟨x, j, none⟩) (.inl rfl) v
theorem frm_no {w w' : World} {x : Nat} (h : Frm (fun _ => False) w w') : Frm (fun k => k = x) w w' := h.mono fun _ h => h.elim

/-- The next byte, and 0 at the end. -/
def pkB (l : List UInt8) : UInt8 := l.headD 0
theorem pk_nil : pkB [] = 0 := rfl
theorem pk_cons (c : UInt8) (u : List UInt8) : pkB (c :: u) = c := rfl
theorem pk_drop {s : ByteArray} {i : Nat} (h : i < s.size) : s.data.toList.drop i = s[i] :: s.data.toList.drop (i + 1) := by
  have j3 : i < s.data.toList.length := by rw [size_list]; exact h
  rw [List.drop_eq_getElem_cons j3]; rfl

set_option maxHeartbeats 1000000 in
theorem peek_any {w : World} {x : Nat} {s : ByteArray} {i : Nat} {v : Value} (h : RdAt w x s i v) (hi : i ≤ s.size) (_hs : s.size ≤ 1000) :
    Calls Tryd.prog 112 #[.pointer (some ⟨x, 0, none⟩)] w fun e w' => e = .returned (.int .u8 (pkB (s.data.toList.drop i)).toNat) ∧ Frm (fun _ => False) w w' := by
  obtain ⟨c0, c1, -, -, -⟩ := rd_cells h
  clear h
  by_cases hlt : i < s.size
  · rw [pk_drop hlt, pk_cons]
    have t1 : ((i : Int) == (s.size : Int)) = false := by rw [beq_eq_false_iff_ne]; omega
    have t2 : (0 : Int) ≤ (i : Int) := by omega
    have t3 : (i : Int) < (s.size : Int) := by omega
    go_enter Tryd.func112, Tryd.ntmps112
    go_upto_region 1 with fail
    go_quiet (fail)
    go_upto_region 3 with fail
    go_quiet (fail)
    go_wp2_with fail
    go_ret
    exact ⟨rfl, ((Frm.refl _ _).drewN _).drewN _⟩
  · obtain rfl : i = s.size := by omega
    rw [List.drop_of_length_le (by rw [size_list]; exact Nat.le_refl _), pk_nil]
    have t1 : ((s.size : Int) == (s.size : Int)) = true := by rw [beq_iff_eq]
    go_enter Tryd.func112, Tryd.ntmps112
    go_upto_region 1 with fail
    go_quiet (fail)
    go_wp2_with fail
    go_ret
    exact ⟨rfl, (Frm.refl _ _).drewN _⟩

/-- A fault. -/
def fltC (a k : Int) : List PanicEntry := [{ v := .iface 93 (.agg #[.int .i64 a, .int .i64 k]), recovered := false }]
theorem fail_any {w : World} {x : Nat} {s : ByteArray} {i : Nat} {v : Value} (h : RdAt w x s i v) :
    Calls Tryd.prog 113 #[.pointer (some ⟨x, 0, none⟩)] w fun e w' => e = .panicked (fltC i 12) ∧ w = w' := by
  obtain ⟨c0, c1, -, -, -⟩ := rd_cells h
  clear h
  unfold fltC
  go_enter Tryd.func113, Tryd.ntmps113
  go_wp2_with fail
  exact ⟨rfl, rfl, rfl⟩

/-! ### Numbers -/
theorem num_stop {z : Bool} {k : Nat} {n : Int} {t : List UInt8} (h : dgtB (pkB t) = false) : numG z k n t = if k = 0 then .inl t else .inr (n, t) := by
  cases t with
  | nil => rw [numG]
  | cons c u =>
    rw [pk_cons] at h
    rw [numG, if_neg (by rw [h]; decide)]
theorem num_zero {k : Nat} {n : Int} {t : List UInt8} (h : dgtB (pkB t) = true) (hk : k ≠ 0) : numG true k n t = .inl t := by
  cases t with
  | nil => rw [pk_nil] at h; exact absurd h (by decide)
  | cons c u =>
    rw [pk_cons] at h
    rw [numG, if_pos h, if_pos ⟨hk, rfl⟩]
theorem num_step {z : Bool} {k : Nat} {n : Int} {t : List UInt8} (h : dgtB (pkB t) = true) (hz : k = 0 ∨ z = false) : numG z k n t = numG (if k = 0 then pkB t == 48 else z) (k + 1) (min (n * 10 + (((pkB t).toNat : Int) - 48)) 201) t.tail := by
  cases t with
  | nil => rw [pk_nil] at h; exact absurd h (by decide)
  | cons c u =>
    rw [pk_cons] at h ⊢
    rw [numG, if_pos h, if_neg (by rintro ⟨h1, h2⟩; rcases hz with h | h; exact h1 h; rw [h] at h2; cases h2)]
    rfl
/-- What number leaves. -/
def NumP (r : Sum (List UInt8) (Int × List UInt8)) (w : World) (x : Nat) (s : ByteArray) (v : Value) (e : Ending) (w' : World) : Prop :=
  match r with
  | .inl t => e = .panicked (fltC ((s.size - t.length : Nat) : Int) 12) ∧ Frm (fun k => k = x) w w'
  | .inr (n, t) => e = .returned (.int .i64 n) ∧ RdAt w' x s (s.size - t.length) v ∧ Frm (fun k => k = x) w w'
theorem numP_bad {R : Sum (List UInt8) (Int × List UInt8)} {w w' : World} {x j : Nat} {s : ByteArray} {v : Value} {t : List UInt8} (h : .inl t = R) (ht : s.size - t.length = j) (hf : Frm (fun k => k = x) w w') : NumP R w x s v (.panicked (fltC (j : Int) 12)) w' := by
  subst h
  subst ht
  exact ⟨rfl, hf⟩
theorem numP_ok {R : Sum (List UInt8) (Int × List UInt8)} {w w' : World} {x j : Nat} {s : ByteArray} {v : Value} {n : Int} {t : List UInt8} (h : .inr (n, t) = R) (ht : s.size - t.length = j) (hr : RdAt w' x s j v) (hf : Frm (fun k => k = x) w w') : NumP R w x s v (.returned (.int .i64 n)) w' := by
  subst h
  subst ht
  exact ⟨rfl, hr, hf⟩
theorem len_drop {s : ByteArray} {j : Nat} (h : j ≤ s.size) : s.size - (s.data.toList.drop j).length = j := by rw [List.length_drop, size_list]; omega
theorem tail_drop (l : List UInt8) (j : Nat) : (l.drop j).tail = l.drop (j + 1) := by rw [List.tail_drop]
def atW (x : Nat) (w : World) : Nat := match w.cell? ⟨x, 1, none⟩ with | some v => (intOf v).toNat | none => 0
theorem atW_of {w : World} {x : Nat} {s : ByteArray} {i : Nat} {v : Value} (h : RdAt w x s i v) : atW x w = i := by
  unfold atW
  rw [(rd_cells h).2.1]
  simp [intOf]
theorem at_lt {w w' : World} {x : Nat} {s : ByteArray} {i j : Nat} {v v' : Value} (h : RdAt w x s i v) (h' : RdAt w' x s j v') (hij : i < j) (hj : j ≤ s.size) : s.size - atW x w' < s.size - atW x w := by
  rw [atW_of h, atW_of h']
  omega

set_option maxRecDepth 100000 in
set_option maxHeartbeats 4000000 in
theorem number_any {w : World} {x : Nat} {s : ByteArray} {i : Nat} {v : Value} (h : RdAt w x s i v) (hi : i ≤ s.size) (hs : s.size ≤ 1000) :
    Calls Tryd.prog 141 #[.pointer (some ⟨x, 0, none⟩)] w (NumP (numR (s.data.toList.drop i)) w x s v) := by
  obtain ⟨R, hR⟩ : ∃ R, numR (s.data.toList.drop i) = R := ⟨_, rfl⟩
  rw [hR]
  have HR := Lib.hid hR
  obtain ⟨c0, c1, -, -, -⟩ := rd_cells h
  have H := Lib.hid h
  clear h hR
  go_enter Tryd.func141, Tryd.ntmps141
  go_wp2_with fail
  go_loopw [4] (fun sn wr => ∃ (k : Nat) (z : Bool) (n : Int), sn = .int .i64 n ∧ RdAt wr x s (i + k) v ∧ Frm (fun k => k = x) w wr ∧ i + k ≤ s.size ∧ 0 ≤ n ∧ n ≤ 201 ∧ Hid (numG z k n (s.data.toList.drop (i + k)) = R) ∧ Hid (k ≠ 0 → z = (pkB (s.data.toList.drop i) == 48))) (fun _ wr => s.size - atW x wr)
  case atStart => exact ⟨0, false, 0, rfl, H.out, Frm.refl _ _, hi, by omega, by omega, HR.out, fun h => absurd rfl h⟩
  case round =>
    obtain ⟨k, z, n, rfl, hrd, hf, hk, hn0, hn1, hnum, hz⟩ := hrel
    clear c0 c1
    obtain ⟨c, hc⟩ : ∃ c, pkB (s.data.toList.drop (i + k)) = c := ⟨_, rfl⟩
    have hc1 := c.toNat_lt
    have hpk := peek_any hrd hk hs
    rw [hc] at hpk
    have HC := Lib.hid hc
    clear hc
    have Hrd := Lib.hid hrd
    have Hf := Lib.hid hf
    clear hrd hf
    by_cases hd : dgtB c = true
    · have hd2 : 48 ≤ c.toNat ∧ c.toNat ≤ 57 := by unfold dgtB at hd; simpa using hd
      obtain ⟨d1, d2⟩ := hd2
      have hlt : i + k < s.size := by
        refine Classical.byContradiction fun hn => ?_
        have := HC.out
        rw [List.drop_of_length_le (by rw [size_list]; omega), pk_nil] at this
        rw [← this] at hd
        exact absurd hd (by decide)
      by_cases hk0 : k = 0
      · subst hk0
        have hst := num_step (z := z) (k := 0) (n := n) (t := s.data.toList.drop (i + 0)) (by rw [HC.out]; exact hd) (.inl rfl)
        rw [HC.out, tail_drop, hnum.out] at hst
        have Hst := Lib.hid hst
        clear hst hd
        go_wp2_with fail
        refine hpk.mono ?_
        rintro e w1 ⟨rfl, f1⟩
        have hrd1 := Hrd.out.still f1
        have Hf1 := Lib.hid (Hf.out.trans (frm_no f1))
        have hpk2 := peek_any hrd1 hk hs
        rw [HC.out] at hpk2
        have Hrd1 := Lib.hid hrd1
        clear hrd1 hpk
        go_wp2_with fail
        refine hpk2.mono ?_
        rintro e w2 ⟨rfl, f2⟩
        have hrd2 := Hrd1.out.still f2
        have Hf2 := Lib.hid (Hf1.out.trans (frm_no f2))
        obtain ⟨c0, c1, -, -, -⟩ := rd_cells hrd2
        have hpk3 := peek_any hrd2 hk hs
        rw [HC.out] at hpk3
        have Hrd2 := Lib.hid hrd2
        clear hrd2 hpk2
        go_wp2_with fail
        refine hpk3.mono ?_
        rintro e w3 ⟨rfl, f3⟩
        have hrd3 := Hrd2.out.still f3
        have Hf3 := Lib.hid (Hf2.out.trans (frm_no f3))
        clear c0 c1 hpk3
        obtain ⟨-, c1, -, z1, -⟩ := rd_cells hrd3
        have Hrd3 := Lib.hid hrd3
        clear hrd3
        go_wp2_with fail
        go_roundw
        case rel => exact ⟨1, _, _, rfl, (Hrd3.out.next (i + 1)), frm_at Hf3.out, by omega, by omega, by omega, Hst.out.symm, fun _ => by rw [if_pos trivial, ← HC.out]; rfl⟩
        case measure => exact at_lt Hrd.out (Hrd3.out.next (i + 1)) (by omega) (by omega)
      · have hk1 := Lib.hid hk0
        have hgt : (i : Int) < (i : Int) + (k : Int) := by omega
        have hi0 : (0 : Int) ≤ (i : Int) := by omega
        have hi1 : (i : Int) < (s.size : Int) := by omega
        clear hk0
        have hsi : s[i] = pkB (s.data.toList.drop i) := by rw [pk_drop (by omega), pk_cons]
        have Hsi := Lib.hid hsi
        clear hsi
        by_cases hz0 : (pkB (s.data.toList.drop i) == 48) = true
        · have hst := num_zero (k := k) (n := n) (t := s.data.toList.drop (i + k)) (by rw [HC.out]; exact hd) hk1.out
          rw [← hz0, ← hz.out hk1.out, hnum.out] at hst
          have Hst := Lib.hid hst
          clear hst hd
          have h48 : ((s[i].toNat : Int) == 48) = true := by rw [Hsi.out, beq_iff_eq.1 hz0]; rfl
          clear hz0
          go_wp2_with fail
          refine hpk.mono ?_
          rintro e w1 ⟨rfl, f1⟩
          have hrd1 := Hrd.out.still f1
          have Hf1 := Lib.hid (Hf.out.trans (frm_no f1))
          have hpk2 := peek_any hrd1 hk hs
          rw [HC.out] at hpk2
          have Hrd1 := Lib.hid hrd1
          clear hrd1 hpk
          go_wp2_with fail
          refine hpk2.mono ?_
          rintro e w2 ⟨rfl, f2⟩
          have hrd2 := Hrd1.out.still f2
          have Hf2 := Lib.hid (Hf1.out.trans (frm_no f2))
          obtain ⟨c0, c1, -, -, -⟩ := rd_cells hrd2
          have hpk3 := peek_any hrd2 hk hs
          rw [HC.out] at hpk3
          have Hrd2 := Lib.hid hrd2
          clear hrd2 hpk2
          go_wp2_with fail
          refine (fail_any Hrd2.out).mono ?_
          rintro e w3 ⟨rfl, rfl⟩
          exact ⟨rfl, numP_bad Hst.out.symm (len_drop hk) Hf2.out⟩
        · have hz1 : z = false := by rw [hz.out hk1.out]; simpa using hz0
          have hst := num_step (z := z) (k := k) (n := n) (t := s.data.toList.drop (i + k)) (by rw [HC.out]; exact hd) (.inr hz1)
          rw [HC.out, tail_drop, hnum.out, if_neg hk1.out] at hst
          have Hst := Lib.hid hst
          clear hst hd hz1
          have h48 : ((s[i].toNat : Int) == 48) = false := by
            rw [beq_eq_false_iff_ne, Hsi.out]
            intro hh
            exact hz0 (beq_iff_eq.2 (UInt8.toNat_inj.1 (by show _ = 48; omega)))
          clear hz0
          go_wp2_with fail
          refine hpk.mono ?_
          rintro e w1 ⟨rfl, f1⟩
          have hrd1 := Hrd.out.still f1
          have Hf1 := Lib.hid (Hf.out.trans (frm_no f1))
          have hpk2 := peek_any hrd1 hk hs
          rw [HC.out] at hpk2
          have Hrd1 := Lib.hid hrd1
          clear hrd1 hpk
          go_wp2_with fail
          refine hpk2.mono ?_
          rintro e w2 ⟨rfl, f2⟩
          have hrd2 := Hrd1.out.still f2
          have Hf2 := Lib.hid (Hf1.out.trans (frm_no f2))
          obtain ⟨c0, c1, -, -, -⟩ := rd_cells hrd2
          have hpk3 := peek_any hrd2 hk hs
          rw [HC.out] at hpk3
          have Hrd2 := Lib.hid hrd2
          clear hrd2 hpk2
          go_wp2_with fail
          refine hpk3.mono ?_
          rintro e w3 ⟨rfl, f3⟩
          have hrd3 := Hrd2.out.still f3
          have Hf3 := Lib.hid (Hf2.out.trans (frm_no f3))
          clear c0 c1 hpk3
          obtain ⟨-, c1, -, z1, -⟩ := rd_cells hrd3
          have Hrd3 := Lib.hid hrd3
          clear hrd3
          go_wp2_with fail
          go_roundw
          case rel => exact ⟨(k + 1), _, _, rfl, (Hrd3.out.next (i + (k + 1))), frm_at Hf3.out, by omega, by omega, by omega, Hst.out.symm, fun _ => hz.out hk1.out⟩
          case measure => exact at_lt Hrd.out (Hrd3.out.next (i + (k + 1))) (by omega) (by omega)
    · have hst := num_stop (z := z) (k := k) (n := n) (t := s.data.toList.drop (i + k)) (by rw [HC.out]; simpa using hd)
      rw [hnum.out] at hst
      have Hst := Lib.hid hst
      clear hst
      have hd2 : ¬ (48 ≤ c.toNat ∧ c.toNat ≤ 57) := by unfold dgtB at hd; simpa using hd
      clear hd
      by_cases h48 : (48 : Int) ≤ (c.toNat : Int)
      · have h57 : ¬ (c.toNat : Int) ≤ 57 := by omega
        clear hd2
        go_wp2_with fail
        refine hpk.mono ?_
        rintro e w1 ⟨rfl, f1⟩
        have hrd1 := Hrd.out.still f1
        have Hf1 := Lib.hid (Hf.out.trans (frm_no f1))
        have hpk2 := peek_any hrd1 hk hs
        rw [HC.out] at hpk2
        have Hrd1 := Lib.hid hrd1
        clear hrd1 hpk
        go_wp2_with fail
        refine hpk2.mono ?_
        rintro e w2 ⟨rfl, f2⟩
        have hrd2 := Hrd1.out.still f2
        have Hf2 := Lib.hid (Hf1.out.trans (frm_no f2))
        obtain ⟨c0, c1, -, -, -⟩ := rd_cells hrd2
        have Hrd2 := Lib.hid hrd2
        clear hrd2 hpk2
        by_cases hk0 : k = 0
        · subst hk0
          go_wp2_with fail
          refine (fail_any Hrd2.out).mono ?_
          rintro e w3 ⟨rfl, rfl⟩
          exact ⟨rfl, numP_bad Hst.out.symm (len_drop hk) Hf2.out⟩
        · have hk1 := Lib.hid hk0
          clear hk0
          have hne : ((i : Int) + (k : Int) == (i : Int)) = false := by rw [beq_eq_false_iff_ne]; have := hk1.out; omega
          go_wp2_with fail
          go_ret
          exact numP_ok (by rw [Hst.out, if_neg hk1.out]) (len_drop hk) Hrd2.out Hf2.out
      · clear hd2
        go_wp2_with fail
        refine hpk.mono ?_
        rintro e w1 ⟨rfl, f1⟩
        have hrd1 := Hrd.out.still f1
        have Hf1 := Lib.hid (Hf.out.trans (frm_no f1))
        obtain ⟨c0, c1, -, -, -⟩ := rd_cells hrd1
        have Hrd1 := Lib.hid hrd1
        clear hrd1 hpk
        by_cases hk0 : k = 0
        · subst hk0
          go_wp2_with fail
          refine (fail_any Hrd1.out).mono ?_
          rintro e w3 ⟨rfl, rfl⟩
          exact ⟨rfl, numP_bad Hst.out.symm (len_drop hk) Hf1.out⟩
        · have hk1 := Lib.hid hk0
          clear hk0
          have hne : ((i : Int) + (k : Int) == (i : Int)) = false := by rw [beq_eq_false_iff_ne]; have := hk1.out; omega
          go_wp2_with fail
          go_ret
          exact numP_ok (by rw [Hst.out, if_neg hk1.out]) (len_drop hk) Hrd1.out Hf1.out

theorem num_suf : ∀ (t : List UInt8) (z : Bool) (k : Nat) (n : Int), 0 ≤ n → n ≤ 201 → (∀ r, numG z k n t = .inl r → r <:+ t) ∧ (∀ a r, numG z k n t = .inr (a, r) → r <:+ t ∧ 0 ≤ a ∧ a ≤ 201)
  | [], z, k, n, h0, h1 => by
    rw [numG]
    split
    · exact ⟨fun r h => by injection h with h; subst h; exact List.suffix_refl _, fun a r h => by injection h⟩
    · exact ⟨fun r h => by injection h, fun a r h => by injection h with h; injection h with h2 h; subst h; subst h2; exact ⟨List.suffix_refl _, h0, h1⟩⟩
  | c :: u, z, k, n, h0, h1 => by
    rw [numG]
    split
    · rename_i hd
      split
      · exact ⟨fun r h => by injection h with h; subst h; exact List.suffix_refl _, fun a r h => by injection h⟩
      · have hd2 : 48 ≤ c.toNat ∧ c.toNat ≤ 57 := by unfold dgtB at hd; simpa using hd
        obtain ⟨g1, g2⟩ := num_suf u (if k = 0 then c == 48 else z) (k + 1) (min (n * 10 + ((c.toNat : Int) - 48)) 201) (by omega) (by omega)
        exact ⟨fun r h => (g1 r h).trans (List.suffix_cons _ _), fun a r h => ⟨(g2 a r h).1.trans (List.suffix_cons _ _), (g2 a r h).2⟩⟩
    · split
      · exact ⟨fun r h => by injection h with h; subst h; exact List.suffix_refl _, fun a r h => by injection h⟩
      · exact ⟨fun r h => by injection h, fun a r h => by injection h with h; injection h with h2 h; subst h; subst h2; exact ⟨List.suffix_refl _, h0, h1⟩⟩
theorem suf_pos {s : ByteArray} {i : Nat} {r : List UInt8} (hi : i ≤ s.size) (h : r <:+ s.data.toList.drop i) : ∃ j, i ≤ j ∧ j ≤ s.size ∧ r = s.data.toList.drop j := by
  have e := List.suffix_iff_eq_drop.1 h
  have hl := h.length_le
  rw [List.length_drop, size_list] at hl
  rw [List.drop_drop, List.length_drop, size_list] at e
  exact ⟨i + (s.size - i - r.length), by omega, by omega, e⟩
theorem num_pos {s : ByteArray} {i : Nat} {n : Int} {r : List UInt8} (hi : i ≤ s.size) (h : numR (s.data.toList.drop i) = .inr (n, r)) : ∃ j, i ≤ j ∧ j ≤ s.size ∧ r = s.data.toList.drop j ∧ 0 ≤ n ∧ n ≤ 201 := by
  obtain ⟨h1, h2, h3⟩ := (num_suf _ false 0 0 (by omega) (by omega)).2 n r h
  obtain ⟨j, a, b, c⟩ := suf_pos hi h1
  exact ⟨j, a, b, c, h2, h3⟩
theorem number_bad {w : World} {x : Nat} {s : ByteArray} {i : Nat} {v : Value} {t : List UInt8} (h : RdAt w x s i v) (hi : i ≤ s.size) (hs : s.size ≤ 1000) (hr : numR (s.data.toList.drop i) = .inl t) :
    Calls Tryd.prog 141 #[.pointer (some ⟨x, 0, none⟩)] w fun e w' => e = .panicked (fltC ((s.size - t.length : Nat) : Int) 12) ∧ Frm (fun k => k = x) w w' := by
  have := number_any h hi hs
  rw [hr] at this
  exact this
theorem number_ok {w : World} {x : Nat} {s : ByteArray} {i j : Nat} {v : Value} {n : Int} (h : RdAt w x s i v) (hi : i ≤ s.size) (hs : s.size ≤ 1000) (hj : j ≤ s.size) (hr : numR (s.data.toList.drop i) = .inr (n, s.data.toList.drop j)) :
    Calls Tryd.prog 141 #[.pointer (some ⟨x, 0, none⟩)] w fun e w' => e = .returned (.int .i64 n) ∧ RdAt w' x s j v ∧ Frm (fun k => k = x) w w' := by
  have := number_any h hi hs
  rw [hr] at this
  refine this.mono ?_
  rintro e w' ⟨h1, h2, h3⟩
  rw [len_drop hj] at h2
  exact ⟨h1, h2, h3⟩

/-! ### Braces -/
theorem brE_no {t : List UInt8} {a b : Int} {r : List UInt8} (h : pkB r ≠ 125) : brE t a b r = .inl (r, 12) := by
  unfold brE
  split
  · exact absurd rfl h
  · rfl
theorem brE_yes {t : List UInt8} {a b : Int} {r : List UInt8} (h : pkB r = 125) : brE t a b r = if b < a ∨ b = 0 ∨ 200 < b then .inl (123 :: t, 3) else .inr (a, b, r.tail) := by
  cases r with
  | nil => rw [pk_nil] at h; exact absurd h (by decide)
  | cons c u =>
    rw [pk_cons] at h
    subst h
    rfl
theorem brM_no {t : List UInt8} {a : Int} {r : List UInt8} (h : pkB r ≠ 44) : brM t a r = brE t a a r := by
  unfold brM
  split
  · exact absurd rfl h
  · rfl
theorem brM_yes {t : List UInt8} {a : Int} {r : List UInt8} (h : pkB r = 44) : brM t a r = match numR r.tail with | .inl q => .inl (q, 12) | .inr (b, q) => brE t a b q := by
  cases r with
  | nil => rw [pk_nil] at h; exact absurd h (by decide)
  | cons c u =>
    rw [pk_cons] at h
    subst h
    rfl
/-- What braces, and count, leave. -/
def BrP (r : Sum (List UInt8 × Int) (Int × Int × List UInt8)) (w : World) (x : Nat) (s : ByteArray) (v : Value) (e : Ending) (w' : World) : Prop :=
  match r with
  | .inl (t, k) => e = .panicked (fltC ((s.size - t.length : Nat) : Int) k) ∧ Frm (fun k => k = x) w w'
  | .inr (a, b, t) => e = .returned (.tuple #[.int .i64 a, .int .i64 b]) ∧ RdAt w' x s (s.size - t.length) v ∧ Frm (fun k => k = x) w w'
theorem brP_bad {R : Sum (List UInt8 × Int) (Int × Int × List UInt8)} {w w' : World} {x j : Nat} {k : Int} {s : ByteArray} {v : Value} {t : List UInt8} (h : R = .inl (t, k)) (ht : s.size - t.length = j) (hf : Frm (fun k => k = x) w w') : BrP R w x s v (.panicked (fltC (j : Int) k)) w' := by
  subst h
  subst ht
  exact ⟨rfl, hf⟩
theorem brP_ok {R : Sum (List UInt8 × Int) (Int × Int × List UInt8)} {w w' : World} {x j : Nat} {s : ByteArray} {v : Value} {a b : Int} {t : List UInt8} (h : R = .inr (a, b, t)) (ht : s.size - t.length = j) (hr : RdAt w' x s j v) (hf : Frm (fun k => k = x) w w') : BrP R w x s v (.returned (.tuple #[.int .i64 a, .int .i64 b])) w' := by
  subst h
  subst ht
  exact ⟨rfl, hr, hf⟩
theorem pk_at {s : ByteArray} {j : Nat} {c : UInt8} (h : pkB (s.data.toList.drop j) = c) (hc : c ≠ 0) : j < s.size := by
  refine Classical.byContradiction fun hn => hc ?_
  rw [← h, List.drop_of_length_le (by rw [size_list]; omega)]
  rfl

set_option maxRecDepth 100000 in
set_option maxHeartbeats 4000000 in
theorem braces_any {w : World} {x : Nat} {s : ByteArray} {i : Nat} {v : Value} (h : RdAt w x s i v) (hi : i < s.size) (hs : s.size ≤ 1000) :
    Calls Tryd.prog 130 #[.pointer (some ⟨x, 0, none⟩)] w (BrP (brR (s.data.toList.drop (i + 1))) w x s v) := by
  obtain ⟨R, hR⟩ : ∃ R, brR (s.data.toList.drop (i + 1)) = R := ⟨_, rfl⟩
  rw [hR]
  unfold brR at hR
  obtain ⟨-, c1, -, z1, -⟩ := rd_cells h
  have h1 := h.next (i + 1)
  have hf1 := frm_at (v := .int .i64 ((i + 1 : Nat) : Int)) (j := 1) (Frm.refl (fun k => k = x) w)
  obtain ⟨T, hT⟩ : ∃ T, s.data.toList.drop (i + 1) = T := ⟨_, rfl⟩
  have hTl : s.size - (123 :: T).length = i := by rw [← hT, List.length_cons, List.length_drop, size_list]; omega
  cases hn : numR (s.data.toList.drop (i + 1)) with
  | inl t1 =>
    rw [hn] at hR
    have HR := Lib.hid hR
    have Hn := number_bad h1 (by omega) hs hn
    have Hf1 := Lib.hid hf1
    clear hR hn h h1 hf1 hT hTl
    go_enter Tryd.func130, Tryd.ntmps130
    go_wp2_with fail
    refine Hn.mono ?_
    rintro e w1 ⟨rfl, f1⟩
    exact ⟨rfl, brP_bad HR.out.symm rfl (Hf1.out.trans f1)⟩
  | inr ar =>
    obtain ⟨a, r⟩ := ar
    obtain ⟨j, hij, hj, rfl, ha0, ha1⟩ := num_pos (by omega) hn
    rw [hn, hT] at hR
    simp only at hR
    have Hn := number_ok h1 (by omega) hs hj hn
    have Hf1 := Lib.hid hf1
    have HT := Lib.hid hTl
    clear hn h h1 hf1 hT hTl
    obtain ⟨c, hc⟩ : ∃ c, pkB (s.data.toList.drop j) = c := ⟨_, rfl⟩
    have mid : ∀ (w1 : World), RdAt w1 x s j v → Calls Tryd.prog 112 #[.pointer (some ⟨x, 0, none⟩)] w1 fun e w' => e = .returned (.int .u8 c.toNat) ∧ Frm (fun _ => False) w1 w' := fun w1 h => by
      have := peek_any h hj hs
      rw [hc] at this
      exact this
    have Mid := Lib.hid mid
    clear mid
    by_cases h44 : c = 44
    · subst h44
      have hlt := pk_at hc (by decide)
      rw [brM_yes hc, tail_drop] at hR
      have HC := Lib.hid hc
      clear hc
      cases hn2 : numR (s.data.toList.drop (j + 1)) with
      | inl t2 =>
        rw [hn2] at hR
        have HR := Lib.hid hR
        have hb : ∀ (w1 : World), RdAt w1 x s (j + 1) v → Calls Tryd.prog 141 #[.pointer (some ⟨x, 0, none⟩)] w1 fun e w' => e = .panicked (fltC ((s.size - t2.length : Nat) : Int) 12) ∧ Frm (fun k => k = x) w1 w' := fun w1 h => number_bad h (by omega) hs hn2
        have Hb := Lib.hid hb
        clear hb hn2 hR
        go_enter Tryd.func130, Tryd.ntmps130
        go_wp2_with fail
        refine Hn.mono ?_
        rintro e w1 ⟨rfl, h1, f1⟩
        have hpk := Mid.out w1 h1
        have H1 := Lib.hid h1
        have Hf2 := Lib.hid (Hf1.out.trans f1)
        clear h1 f1 Hn
        go_wp2_with fail
        refine hpk.mono ?_
        rintro e w2 ⟨rfl, f2⟩
        have h2 := H1.out.still f2
        have Hf3 := Lib.hid (Hf2.out.trans (frm_no f2))
        clear hpk f2
        obtain ⟨-, c1, -, z1, -⟩ := rd_cells h2
        have H2 := Lib.hid h2
        clear h2
        go_wp2_with fail
        refine (Hb.out _ (H2.out.next (j + 1))).mono ?_
        rintro e w3 ⟨rfl, f3⟩
        exact ⟨rfl, brP_bad HR.out.symm rfl ((frm_at Hf3.out).trans f3)⟩
      | inr br =>
        obtain ⟨b, r⟩ := br
        obtain ⟨j2, hij2, hj2, rfl, hb0, hb1⟩ := num_pos (by omega) hn2
        rw [hn2] at hR
        have HR := Lib.hid hR
        have hb : ∀ (w1 : World), RdAt w1 x s (j + 1) v → Calls Tryd.prog 141 #[.pointer (some ⟨x, 0, none⟩)] w1 fun e w' => e = .returned (.int .i64 b) ∧ RdAt w' x s j2 v ∧ Frm (fun k => k = x) w1 w' := fun w1 h => number_ok h (by omega) hs hj2 hn2
        have Hb := Lib.hid hb
        clear hb hn2 hR
        obtain ⟨c2, hc2⟩ : ∃ c, pkB (s.data.toList.drop j2) = c := ⟨_, rfl⟩
        have HC2 := Lib.hid hc2
        clear hc2
        go_enter Tryd.func130, Tryd.ntmps130
        go_wp2_with fail
        refine Hn.mono ?_
        rintro e w1 ⟨rfl, h1, f1⟩
        have hpk := Mid.out w1 h1
        have H1 := Lib.hid h1
        have Hf2 := Lib.hid (Hf1.out.trans f1)
        clear h1 f1 Hn
        go_wp2_with fail
        refine hpk.mono ?_
        rintro e w2 ⟨rfl, f2⟩
        have h2 := H1.out.still f2
        have Hf3 := Lib.hid (Hf2.out.trans (frm_no f2))
        clear hpk f2
        obtain ⟨-, c1, -, z1, -⟩ := rd_cells h2
        have H2 := Lib.hid h2
        clear h2
        go_wp2_with fail
        refine (Hb.out _ (H2.out.next (j + 1))).mono ?_
        rintro e w5 ⟨rfl, h5, f5⟩
        have Hf5 := Lib.hid ((frm_at (v := .int .i64 ((j + 1 : Nat) : Int)) (j := 1) Hf3.out).trans f5)
        clear f5 c1 z1
        go_wp2_with fail
        have hpk2 := peek_any h5 (by omega) hs
        rw [HC2.out] at hpk2
        have H6 := Lib.hid h5
        clear h5
        by_cases h125 : c2 = 125
        · have hE := brE_yes (t := T) (a := a) (b := b) (HC2.out.trans h125)
          rw [tail_drop, HR.out] at hE
          have hlt2 := pk_at (HC2.out.trans h125) (by decide)
          have e125 : ((c2.toNat : Int) != 125) = false := by rw [h125]; rfl
          refine hpk2.mono ?_
          rintro e w3 ⟨rfl, f3⟩
          have h3 := H6.out.still f3
          have Hf4 := Lib.hid (Hf5.out.trans (frm_no f3))
          obtain ⟨-, c1, -, z1, -⟩ := rd_cells h3
          have H3 := Lib.hid h3
          clear hpk2 f3 h3 h125
          by_cases q1 : b < a
          · rw [if_pos (.inl q1)] at hE
            have HE := Lib.hid hE
            clear hE
            go_wp2_with fail
            exact ⟨rfl, brP_bad HE.out HT.out (frm_at Hf4.out)⟩
          · by_cases q2 : b = 0
            · rw [if_pos (.inr (.inl q2))] at hE
              have HE := Lib.hid hE
              have q3 : (b == 0) = true := by rw [beq_iff_eq]; exact q2
              have q4 := Lib.hid q2
              clear hE q2
              go_wp2_with fail
              exact ⟨rfl, brP_bad HE.out HT.out (frm_at Hf4.out)⟩
            · have q3 : (b == 0) = false := by rw [beq_eq_false_iff_ne]; exact q2
              by_cases q4 : 200 < b
              · rw [if_pos (.inr (.inr q4))] at hE
                have HE := Lib.hid hE
                clear hE
                go_wp2_with fail
                exact ⟨rfl, brP_bad HE.out HT.out (frm_at Hf4.out)⟩
              · rw [if_neg (by omega)] at hE
                have HE := Lib.hid hE
                clear hE
                go_wp2_with fail
                go_ret2
                exact brP_ok HE.out (len_drop (j := j2 + 1) (by omega)) (H3.out.next (j2 + 1)) (frm_at Hf4.out)
        · have hE := brE_no (t := T) (a := a) (b := b) (r := s.data.toList.drop j2) (by rw [HC2.out]; exact h125)
          rw [HR.out] at hE
          have HE := Lib.hid hE
          have e125 : ((c2.toNat : Int) != 125) = true := by rw [bne_iff_ne]; intro hh; exact h125 (UInt8.toNat_inj.1 (by show _ = 125; omega))
          clear hE h125
          refine hpk2.mono ?_
          rintro e w3 ⟨rfl, f3⟩
          have h3 := H6.out.still f3
          have Hf4 := Lib.hid (Hf5.out.trans (frm_no f3))
          clear hpk2 f3
          go_wp2_with fail
          refine (fail_any h3).mono ?_
          rintro e w4 ⟨rfl, rfl⟩
          exact ⟨rfl, brP_bad HE.out (len_drop (by omega)) Hf4.out⟩
    · rw [brM_no (by rw [hc]; exact h44)] at hR
      have HR := Lib.hid hR
      have HC := Lib.hid hc
      have e44 : ((c.toNat : Int) == 44) = false := by rw [beq_eq_false_iff_ne]; intro hh; exact h44 (UInt8.toNat_inj.1 (by show _ = 44; omega))
      clear hR hc h44
      go_enter Tryd.func130, Tryd.ntmps130
      go_wp2_with fail
      refine Hn.mono ?_
      rintro e w1 ⟨rfl, h1, f1⟩
      have hpk := Mid.out w1 h1
      have H1 := Lib.hid h1
      have Hf2 := Lib.hid (Hf1.out.trans f1)
      clear h1 f1 Hn
      go_wp2_with fail
      refine hpk.mono ?_
      rintro e w2 ⟨rfl, f2⟩
      have h2 := H1.out.still f2
      have Hf3 := Lib.hid (Hf2.out.trans (frm_no f2))
      clear hpk f2
      go_wp2_with fail
      have hpk2 := peek_any h2 (by omega) hs
      rw [HC.out] at hpk2
      have H2 := Lib.hid h2
      clear h2
      by_cases h125 : c = 125
      · have hE := brE_yes (t := T) (a := a) (b := a) (HC.out.trans h125)
        rw [tail_drop, HR.out] at hE
        have hlt2 := pk_at (HC.out.trans h125) (by decide)
        have e125 : ((c.toNat : Int) != 125) = false := by rw [h125]; rfl
        refine hpk2.mono ?_
        rintro e w3 ⟨rfl, f3⟩
        have h3 := H2.out.still f3
        have Hf4 := Lib.hid (Hf3.out.trans (frm_no f3))
        obtain ⟨-, c1, -, z1, -⟩ := rd_cells h3
        have H3 := Lib.hid h3
        clear hpk2 f3 h3 h125
        by_cases q1 : a < a
        · exact absurd q1 (Int.lt_irrefl _)
        · by_cases q2 : a = 0
          · rw [if_pos (.inr (.inl q2))] at hE
            have HE := Lib.hid hE
            have q3 : (a == 0) = true := by rw [beq_iff_eq]; exact q2
            have q4 := Lib.hid q2
            clear hE q2
            go_wp2_with fail
            exact ⟨rfl, brP_bad HE.out HT.out (frm_at Hf4.out)⟩
          · have q3 : (a == 0) = false := by rw [beq_eq_false_iff_ne]; exact q2
            by_cases q4 : 200 < a
            · rw [if_pos (.inr (.inr q4))] at hE
              have HE := Lib.hid hE
              clear hE
              go_wp2_with fail
              exact ⟨rfl, brP_bad HE.out HT.out (frm_at Hf4.out)⟩
            · rw [if_neg (by omega)] at hE
              have HE := Lib.hid hE
              clear hE
              go_wp2_with fail
              go_ret2
              exact brP_ok HE.out (len_drop (j := j + 1) (by omega)) (H3.out.next (j + 1)) (frm_at Hf4.out)
      · have hE := brE_no (t := T) (a := a) (b := a) (r := s.data.toList.drop j) (by rw [HC.out]; exact h125)
        rw [HR.out] at hE
        have HE := Lib.hid hE
        have e125 : ((c.toNat : Int) != 125) = true := by rw [bne_iff_ne]; intro hh; exact h125 (UInt8.toNat_inj.1 (by show _ = 125; omega))
        clear hE h125
        refine hpk2.mono ?_
        rintro e w3 ⟨rfl, f3⟩
        have h3 := H2.out.still f3
        have Hf4 := Lib.hid (Hf3.out.trans (frm_no f3))
        clear hpk2 f3
        go_wp2_with fail
        refine (fail_any h3).mono ?_
        rintro e w4 ⟨rfl, rfl⟩
        exact ⟨rfl, brP_bad HE.out (len_drop (by omega)) Hf4.out⟩

/-! ### Counts -/
theorem cnt_plus {t : List UInt8} (h : pkB t = 43) : cntR t = .inr (1, 200, t.tail) := by
  cases t with
  | nil => rw [pk_nil] at h; exact absurd h (by decide)
  | cons c u => rw [pk_cons] at h; subst h; rfl
theorem cnt_star {t : List UInt8} (h : pkB t = 42) : cntR t = .inr (0, 200, t.tail) := by
  cases t with
  | nil => rw [pk_nil] at h; exact absurd h (by decide)
  | cons c u => rw [pk_cons] at h; subst h; rfl
theorem cnt_brace {t : List UInt8} (h : pkB t = 123) : cntR t = brR t.tail := by
  cases t with
  | nil => rw [pk_nil] at h; exact absurd h (by decide)
  | cons c u => rw [pk_cons] at h; subst h; rfl
theorem cnt_one {t : List UInt8} (h1 : pkB t ≠ 43) (h2 : pkB t ≠ 42) (h3 : pkB t ≠ 123) : cntR t = .inr (1, 1, t) := by
  unfold cntR
  split
  · exact absurd rfl h1
  · exact absurd rfl h2
  · exact absurd rfl h3
  · rfl
theorem u8_ne {c : UInt8} (k : UInt8) (h : c ≠ k) : ((c.toNat : Int) == (k.toNat : Int)) = false := by
  rw [beq_eq_false_iff_ne]
  intro hh
  exact h (UInt8.toNat_inj.1 (by omega))

set_option maxRecDepth 100000 in
set_option maxHeartbeats 4000000 in
theorem count_read {w : World} {x : Nat} {s : ByteArray} {i : Nat} {v : Value} (h : RdAt w x s i v) (hi : i ≤ s.size) (hs : s.size ≤ 1000) :
    Calls Tryd.prog 116 #[.pointer (some ⟨x, 0, none⟩)] w (BrP (cntR (s.data.toList.drop i)) w x s v) := by
  obtain ⟨R, hR⟩ : ∃ R, cntR (s.data.toList.drop i) = R := ⟨_, rfl⟩
  rw [hR]
  obtain ⟨c, hc⟩ : ∃ c, pkB (s.data.toList.drop i) = c := ⟨_, rfl⟩
  have hpk := peek_any h hi hs
  rw [hc] at hpk
  have H := Lib.hid h
  clear h
  by_cases h43 : c = 43
  · subst h43
    have hlt := pk_at hc (by decide)
    rw [cnt_plus hc, tail_drop] at hR
    have HR := Lib.hid hR
    clear hR hc
    go_enter Tryd.func116, Tryd.ntmps116
    go_wp2_with fail
    refine hpk.mono ?_
    rintro e w1 ⟨rfl, f1⟩
    have h1 := H.out.still f1
    have Hf1 := Lib.hid (frm_no (x := x) f1)
    obtain ⟨-, c1, -, z1, -⟩ := rd_cells h1
    have H1 := Lib.hid h1
    clear f1 h1 hpk
    go_wp2_with fail
    go_ret2
    exact brP_ok HR.out.symm (len_drop (j := i + 1) (by omega)) (H1.out.next (i + 1)) (frm_at Hf1.out)
  by_cases h42 : c = 42
  · subst h42
    have hlt := pk_at hc (by decide)
    rw [cnt_star hc, tail_drop] at hR
    have HR := Lib.hid hR
    clear hR hc h43
    go_enter Tryd.func116, Tryd.ntmps116
    go_wp2_with fail
    refine hpk.mono ?_
    rintro e w1 ⟨rfl, f1⟩
    have h1 := H.out.still f1
    have Hf1 := Lib.hid (frm_no (x := x) f1)
    obtain ⟨-, c1, -, z1, -⟩ := rd_cells h1
    have H1 := Lib.hid h1
    clear f1 h1 hpk
    go_wp2_with fail
    go_ret2
    exact brP_ok HR.out.symm (len_drop (j := i + 1) (by omega)) (H1.out.next (i + 1)) (frm_at Hf1.out)
  have e43 := u8_ne 43 h43
  have e42 := u8_ne 42 h42
  simp only [show ((43 : UInt8).toNat : Int) = 43 from rfl, show ((42 : UInt8).toNat : Int) = 42 from rfl] at e43 e42
  by_cases h123 : c = 123
  · subst h123
    have hlt := pk_at hc (by decide)
    rw [cnt_brace hc, tail_drop] at hR
    have hbr : ∀ (w1 : World), Frm (fun _ => False) w w1 → Calls Tryd.prog 130 #[.pointer (some ⟨x, 0, none⟩)] w1 (BrP R w1 x s v) := fun w1 f => by
      have := braces_any (H.out.still f) hlt hs
      rw [hR] at this
      exact this
    have Hbr := Lib.hid hbr
    clear hbr hR hc h43 h42
    have fin : ∀ (w1 : World) e w', Frm (fun k => k = x) w w1 → BrP R w1 x s v e w' → BrP R w x s v e w' := by
      intro w1 e w' f h
      cases R with
      | inl tk => exact ⟨h.1, f.trans h.2⟩
      | inr abt => exact ⟨h.1, h.2.1, f.trans h.2.2⟩
    have Fin := Lib.hid fin
    clear fin
    cases R with
    | inl tk =>
      go_enter Tryd.func116, Tryd.ntmps116
      go_wp2_with fail
      refine hpk.mono ?_
      rintro e w1 ⟨rfl, f1⟩
      have hb1 := Hbr.out w1 f1
      have Hf1 := Lib.hid (frm_no (x := x) f1)
      clear f1 hpk
      go_wp2_with fail
      refine hb1.mono ?_
      rintro e w2 h2
      obtain ⟨rfl, f2⟩ := h2
      exact ⟨rfl, rfl, Hf1.out.trans f2⟩
    | inr abt =>
      obtain ⟨a, b, t⟩ := abt
      go_enter Tryd.func116, Tryd.ntmps116
      go_wp2_with fail
      refine hpk.mono ?_
      rintro e w1 ⟨rfl, f1⟩
      have hb1 := Hbr.out w1 f1
      have Hf1 := Lib.hid (frm_no (x := x) f1)
      clear f1 hpk
      go_wp2_with fail
      refine hb1.mono ?_
      rintro e w2 h2
      obtain ⟨rfl, h2, f2⟩ := h2
      have H2 := Lib.hid h2
      clear h2
      go_wp2_with fail
      go_ret2
      exact ⟨rfl, H2.out, Hf1.out.trans f2⟩
  · have e123 := u8_ne 123 h123
    simp only [show ((123 : UInt8).toNat : Int) = 123 from rfl] at e123
    rw [cnt_one (by rw [hc]; exact h43) (by rw [hc]; exact h42) (by rw [hc]; exact h123)] at hR
    have HR := Lib.hid hR
    clear hR hc h43 h42 h123
    go_enter Tryd.func116, Tryd.ntmps116
    go_wp2_with fail
    refine hpk.mono ?_
    rintro e w1 ⟨rfl, f1⟩
    have h1 := H.out.still f1
    have Hf1 := Lib.hid (frm_no (x := x) f1)
    have H1 := Lib.hid h1
    clear f1 h1 hpk
    go_wp2_with fail
    go_ret2
    exact brP_ok HR.out.symm (len_drop (j := i) (by omega)) H1.out Hf1.out
end Go.Proofs.YtgnjakaamgeibaaDoor
