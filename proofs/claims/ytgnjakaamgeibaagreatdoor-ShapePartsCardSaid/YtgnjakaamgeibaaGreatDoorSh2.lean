/-
  Shapes: Of, Full, Concat, samples, and what the laws say of them: plain lists. Nothing of the program is imported. Conditions: none.
  Shapes, small: what the code of both sides does. Conditions: the strings are within reach.
  shape.Empty: what the code does. Conditions: the words of the shape are ints, its strings are short.
  Of and Contains: what the code of both sides does. Conditions: the strings are within reach.
-/
import Derived.Test.YtgnjakaamgeibaaGreatDoorOps
import Derived.Test.YtgnjakaamgeibaaGreatDoorChr
import Derived.BigQuiet
import Derived.Deep.QuietTactic
import Derived.OrdersHeld
import Derived.Deep.Cut
import Derived.Laws.Strings3
namespace Go.Proofs.YtgnjakaamgeibaaGreatDoor
def fullS : Shp := ⟨0, 200, 110, ⟨#[]⟩, ⟨#[]⟩⟩
def ofS (s : ByteArray) : Shp := if textB s.data.toList then ⟨s.size, s.size, bitsI s.data.toList, s, s⟩ else none'
def fixedB (a : Shp) : Bool := decide (lowS a = highS a) && decide (lowS a = a.bg.size)
def someV (a : Shp) (n : Nat) : List UInt8 × Bool := match someL a n with | some s => (s, true) | none => ([], false)
theorem someV_len (a : Shp) (n : Nat) : (someV a n).1.length ≤ n := by
  unfold someV
  cases h : someL a n with
  | none => exact Nat.zero_le _
  | some s => exact Nat.le_of_eq (some_len h)
def sampV (a : Shp) (n : Int) : List UInt8 × Bool :=
  if highS a < lowS a then ([], false)
  else ((someV a (lowS a + n % (min (highS a - lowS a) 12 + 1)).toNat).1, (someV a (lowS a + n % (min (highS a - lowS a) 12 + 1)).toNat).2 && inS a (someV a (lowS a + n % (min (highS a - lowS a) 12 + 1)).toNat).1)
theorem sampV_len (a : Shp) (n : Int) : (sampV a n).1.length ≤ 200 := by
  unfold sampV
  split
  · exact Nat.zero_le _
  · have h1 := someV_len a (lowS a + n % (min (highS a - lowS a) 12 + 1)).toNat
    have h2 := Int.emod_lt_of_pos n (b := min (highS a - lowS a) 12 + 1) (by omega)
    have h3 := Int.emod_nonneg n (b := min (highS a - lowS a) 12 + 1) (by omega)
    have h4 : highS a ≤ 200 := by unfold highS; omega
    have h5 : 0 ≤ lowS a := by unfold lowS; omega
    simp only
    omega
theorem sampV_in {a : Shp} {n : Int} (h : (sampV a n).2 = true) : inS a (sampV a n).1 = true := by
  unfold sampV at h ⊢
  split at h
  · cases h
  · rename_i hc
    rw [if_neg hc]
    simp only [Bool.and_eq_true] at h
    exact h.2
def fillAt (c : Int) (k n : Nat) : UInt8 := (((List.range' k n).map fun k => UInt8.ofNat k).find? fun x => bt c (clsB x)).getD 32
theorem fill_step (c : Int) (k n : Nat) : fillAt c k (n + 1) = if bt c (clsB (UInt8.ofNat k)) then UInt8.ofNat k else fillAt c (k + 1) n := by
  unfold fillAt
  rw [List.range'_succ, List.map_cons, List.find?_cons]
  cases bt c (clsB (UInt8.ofNat k)) <;> rfl
theorem fill_end (c : Int) : fillAt c 32 95 = fillC c := by
  unfold fillAt fillC
  congr 2
end Go.Proofs.YtgnjakaamgeibaaGreatDoor
namespace Go.Proofs.YtgnjakaamgeibaaGreatDoor
open Go.RowKit Go.Shelf
attribute [local go_sem] Oper.semAt_some
def shV (a : Shp) : Value := .agg #[.int .i64 a.lo, .int .i64 a.hi, .int .i64 a.cl, .string a.bg, .string a.en]
/-- The words of a shape are ints, its strings are within reach. -/
structure ShOk (a : Shp) : Prop where
  lo : -9223372036854775808 ≤ a.lo ∧ a.lo ≤ 9223372036854775807
  hi : -9223372036854775808 ≤ a.hi ∧ a.hi ≤ 9223372036854775807
  cl : -9223372036854775808 ≤ a.cl ∧ a.cl ≤ 9223372036854775807
  bg : a.bg.size ≤ 1000
  en : a.en.size ≤ 1000
theorem max_four (t : Array TypeId) (ty : TypeId) (b c d : Int) (w : World) : (Builtin.max_ t ty #[.int .i64 0, .int .i64 b, .int .i64 c, .int .i64 d]).run Tryz.prog w = .ok (.int .i64 (max (max (max 0 b) c) d)) w := by
  have key : ∀ x y : Int, (if y > x then y else x) = max x y := fun x y => by rw [Int.max_def]; split <;> split <;> omega
  simp only [Builtin.max_, List.foldlM_cons, List.foldlM_nil, Builtin.max2, pure_bind, key]
  rfl
theorem row_info24 : (Tryz.prog.info? 24).map (·.size) = some 5 := by kernel_rfl
/-- What a call leaves in the cell of its result. -/
theorem ret_sh {fn : Func} {p : Tmp} (h : fn.results = #[.cell p 24]) {R : Ending → World → Prop} {a : Act} {w : World} (g : Nat) (s : Shp) (ha : a.defers = []) (hp : a.tmps.getD p undef = .pointer (some ⟨g, 0, none⟩)) (hg : w.heap[g]? = some (.cells #[.int .i64 s.lo, .int .i64 s.hi, .int .i64 s.cl, .string s.bg, .string s.en] 24 (0, 0))) (hR : R (.returned (shV s)) w) : bodyPost Tryz.prog fn R .ret a w :=
  bodyPost_ret (results_cell_row h _ w g 24 _ (0, 0) _ hp hg Tryz.underlying24 rfl row_info24) ha hR
theorem empty_any (w : World) : Calls Tryz.prog 35 #[] w fun e w' => e = .returned (shV none') ∧ Frm (fun _ => False) w w' := by
  go_enter Tryz.func35, Tryz.ntmps35
  go_wp2_with fail
  exact ret_sh (s := none') Tryz.results35 _ rfl rfl (heap_alloc_new w _) ⟨rfl, (Frm.refl _ _).alloc _⟩
theorem full_any (w : World) : Calls Tryz.prog 22 #[] w fun e w' => e = .returned (shV fullS) ∧ Frm (fun _ => False) w w' := by
  go_enter Tryz.func22, Tryz.ntmps22
  go_wp2_with fail
  exact ret_sh (s := fullS) Tryz.results22 _ rfl rfl (heap_alloc_new w _) ⟨rfl, (Frm.refl _ _).alloc _⟩
theorem rnone_any (w : World) : Calls Tryz.prog 44 #[] w fun e w' => e = .returned (shV none') ∧ Frm (fun _ => False) w w' := by
  go_enter Tryz.func44, Tryz.ntmps44
  go_wp2_with fail
  exact ret_sh (s := none') Tryz.results44 _ rfl rfl (heap_alloc_new w _) ⟨rfl, (Frm.refl _ _).alloc _⟩
theorem wrap_toInt (x : BitVec 64) : IntKind.i64.wrap ((x.toNat : Nat) : Int) = x.toInt := by
  have := x.isLt
  rw [IntKind.wrap_i64, BitVec.toInt_eq_toNat_cond]
  split <;> omega
theorem bits_and (a b : Int) : bits .and .i64 a b = iAnd a b := wrap_toInt (BitVec.ofInt 64 a &&& BitVec.ofInt 64 b)
theorem bits_or (a b : Int) : bits .or .i64 a b = iOr a b := wrap_toInt (BitVec.ofInt 64 a ||| BitVec.ofInt 64 b)
theorem bits_andNot (a b : Int) : bits .andNot .i64 a b = iAndNot a b := wrap_toInt (BitVec.ofInt 64 a &&& ~~~(BitVec.ofInt 64 b))
theorem least_any (a : Shp) (w : World) : Calls Tryz.prog 41 #[shV a] w fun e w' => e = .returned (.int .i64 (lowS a)) ∧ Frm (fun _ => False) w w' := by
  obtain ⟨l, h, c, b, d⟩ := a
  unfold shV lowS Shp.b Shp.e
  simp only [size_list]
  have hmx := max_four #[3, 3, 3, 3] 3 l b.size d.size
  go_enter Tryz.func41, Tryz.ntmps41
  go_wp2_with fail
  go_ret
  exact ⟨ret_int (by omega), (Frm.refl _ _).alloc _⟩
theorem most_any (a : Shp) (w : World) : Calls Tryz.prog 36 #[shV a] w fun e w' => e = .returned (.int .i64 (highS a)) ∧ Frm (fun _ => False) w w' := by
  obtain ⟨l, h, c, b, d⟩ := a
  unfold shV highS
  go_enter Tryz.func36, Tryz.ntmps36
  go_wp2_with fail
  go_ret
  exact ⟨rfl, (Frm.refl _ _).alloc _⟩
theorem rleast_any (a : Shp) (w : World) : Calls Tryz.prog 25 #[shV a] w fun e w' => e = .returned (.int .i64 (lowS a)) ∧ Frm (fun _ => False) w w' := by
  obtain ⟨l, h, c, b, d⟩ := a
  unfold shV lowS Shp.b Shp.e
  simp only [size_list]
  go_enter Tryz.func25, Tryz.ntmps25
  go_wp2_with fail
  go_ret
  exact ⟨ret_int (by omega), (Frm.refl _ _).alloc _⟩
theorem rmost_any (a : Shp) (w : World) : Calls Tryz.prog 26 #[shV a] w fun e w' => e = .returned (.int .i64 (highS a)) ∧ Frm (fun _ => False) w w' := by
  obtain ⟨l, h, c, b, d⟩ := a
  unfold shV highS
  go_enter Tryz.func26, Tryz.ntmps26
  go_wp2_with fail
  go_ret
  exact ⟨rfl, (Frm.refl _ _).alloc _⟩
theorem own_any (a : Shp) (w : World) : Calls Tryz.prog 37 #[shV a] w fun e w' => e = .returned (.int .i64 (ownS a)) ∧ Frm (fun _ => False) w w' := by
  obtain ⟨l, h, c, b, d⟩ := a
  unfold shV ownS
  go_enter Tryz.func37, Tryz.ntmps37
  go_wp2_with fail
  go_ret
  exact ⟨ret_int (bits_and _ _), (Frm.refl _ _).alloc _⟩
theorem among_any (a b : Int) (w : World) : Calls Tryz.prog 31 #[.int .i64 a, .int .i64 b] w fun e w' => e = .returned (.bool (subI a b)) ∧ w = w' := by
  unfold subI
  rw [← bits_andNot]
  go_enter Tryz.func31, Tryz.ntmps31
  go_wp2_with fail
  go_ret
  exact ⟨rfl, rfl⟩
theorem pow_wrap (k : Nat) (h : k ≤ 6) : wrap64 (2 ^ min k 64) = 2 ^ k := by
  have key : ∀ k : Fin 7, wrap64 (2 ^ min k.1 64) = 2 ^ k.1 := by unfold wrap64; decide
  exact key ⟨k, by omega⟩
set_option maxHeartbeats 1000000 in
theorem bitsOf_any (s : ByteArray) (hs : s.size ≤ 9223372036854775807) (w : World) : Calls Tryz.prog 32 #[.string s] w fun e w' => e = .returned (.int .i64 (bitsI s.data.toList)) ∧ w = w' := by
  have hl := size_list s
  go_enter Tryz.func32, Tryz.ntmps32
  go_wp2_with fail
  go_loop [3, 7] (fun v i => ∃ k : Nat, i = .int .i64 k ∧ k ≤ s.size ∧ v = .int .i64 (bitsI (s.data.toList.take k))) (fun _ i => s.size - (intOf i).toNat)
  case atStart => exact ⟨0, rfl, Nat.zero_le _, rfl⟩
  case round =>
    obtain ⟨k, rfl, hk, rfl⟩ := hrel
    have Hl := Lib.hid hl
    clear hl
    by_cases hlt : k < s.size
    · have j3 : k < s.data.toList.length := by have := Hl.out; omega
      have hge : s.data.toList[k] = s[k] := rfl
      have hst : bitsI (s.data.toList.take (k + 1)) = iOr (bitsI (s.data.toList.take k)) (2 ^ clsB s[k]) := by
        rw [List.take_succ_eq_append_getElem j3, bits_snoc, hge]
      have Hst := Lib.hid hst
      have hpw := pow_wrap _ (cls_le s[k])
      clear hst hge
      go_wp2_with fail
      refine (class_any s[k] _).mono ?_
      rintro e w1 ⟨rfl, rfl⟩
      go_wp2_with fail
      go_round
      case rel => exact ⟨k + 1, by go_num, hlt, by rw [Hst.out, ← bits_or]⟩
      case measure => simp [intOf]; omega
    · have hend : ¬ ((k : Int) < (s.size : Int)) := by omega
      have hr : s.data.toList.take k = s.data.toList := List.take_of_length_le (by have := Hl.out; omega)
      rw [hr]
      go_wp2_with fail
      go_ret
      exact ⟨rfl, rfl⟩
set_option maxHeartbeats 1000000 in
theorem rbits_any (s : ByteArray) (hs : s.size ≤ 9223372036854775807) (w : World) : Calls Tryz.prog 45 #[.string s] w fun e w' => e = .returned (.int .i64 (bitsI s.data.toList)) ∧ w = w' := by
  have hl := size_list s
  go_enter Tryz.func45, Tryz.ntmps45
  go_wp2_with fail
  go_loop [3, 4] (fun v i => ∃ k : Nat, i = .int .i64 k ∧ k ≤ s.size ∧ v = .int .i64 (bitsI (s.data.toList.take k))) (fun _ i => s.size - (intOf i).toNat)
  case atStart => exact ⟨0, rfl, Nat.zero_le _, rfl⟩
  case round =>
    obtain ⟨k, rfl, hk, rfl⟩ := hrel
    have Hl := Lib.hid hl
    clear hl
    by_cases hlt : k < s.size
    · have j3 : k < s.data.toList.length := by have := Hl.out; omega
      have hge : s.data.toList[k] = s[k] := rfl
      have hst : bitsI (s.data.toList.take (k + 1)) = iOr (bitsI (s.data.toList.take k)) (2 ^ clsB s[k]) := by
        rw [List.take_succ_eq_append_getElem j3, bits_snoc, hge]
      have Hst := Lib.hid hst
      have hpw := pow_wrap _ (cls_le s[k])
      clear hst hge
      go_wp2_with fail
      refine (rclass_any s[k] _).mono ?_
      rintro e w1 ⟨rfl, rfl⟩
      go_wp2_with fail
      go_round
      case rel => exact ⟨k + 1, by go_num, hlt, by rw [Hst.out, ← bits_or]⟩
      case measure => simp [intOf]; omega
    · have hend : ¬ ((k : Int) < (s.size : Int)) := by omega
      have hr : s.data.toList.take k = s.data.toList := List.take_of_length_le (by have := Hl.out; omega)
      rw [hr]
      go_wp2_with fail
      go_ret
      exact ⟨rfl, rfl⟩
theorem isText2_any (s : ByteArray) (hs : s.size ≤ 9223372036854775807) (w : World) : Calls Tryz.prog 30 #[.string s] w fun e w' => e = .returned (.bool (textB s.data.toList)) ∧ w = w' := by
  have hl := size_list s
  have ht : textB s.data.toList = (decide (s.size ≤ 200) && chrs s.data.toList) := by unfold textB; rw [hl]
  rw [ht]
  clear ht hl
  by_cases h : s.size ≤ 200
  · rw [decide_eq_true h, Bool.true_and, ← clsIn_all, ← among_bits]
    have h2 : (s.size : Int) ≤ 200 := by omega
    go_enter Tryz.func30, Tryz.ntmps30
    go_wp2_with fail
    refine (bitsOf_any s hs _).mono ?_
    rintro e w1 ⟨rfl, rfl⟩
    go_wp2_with fail
    refine (among_any _ _ _).mono ?_
    rintro e w1 ⟨rfl, rfl⟩
    go_wp2_with fail
    go_ret
    exact ⟨rfl, rfl⟩
  · rw [decide_eq_false h, Bool.false_and]
    have h2 : ¬ (s.size : Int) ≤ 200 := by omega
    go_enter Tryz.func30, Tryz.ntmps30
    go_wp2_with fail
    go_ret
    exact ⟨rfl, rfl⟩
end Go.Proofs.YtgnjakaamgeibaaGreatDoor
namespace Go.Proofs.YtgnjakaamgeibaaGreatDoor
open Go.RowKit Go.Shelf
attribute [local go_sem] Oper.semAt_some
/-- A box with a shape. -/
theorem one_sh (w : World) (l h c : Int) (b d : ByteArray) : ∃ W x, w.alloc (.cells #[.int .i64 l, .int .i64 h, .int .i64 c, .string b, .string d] 24) = W ∧ w.heap.size = x ∧ Frm (fun _ => False) w W ∧
    (W.cell? ⟨x, 0, none⟩ = some (.int .i64 l) ∧ W.cell? ⟨x, 1, none⟩ = some (.int .i64 h) ∧ W.cell? ⟨x, 2, none⟩ = some (.int .i64 c) ∧ W.cell? ⟨x, 3, none⟩ = some (.string b) ∧ W.cell? ⟨x, 4, none⟩ = some (.string d)) := by
  have hg := heap_alloc_new w (.cells #[.int .i64 l, .int .i64 h, .int .i64 c, .string b, .string d] 24)
  exact ⟨_, _, rfl, rfl, (Frm.refl _ _).alloc _, by rw [cell_of_row _ _ _ _ _ _ hg]; rfl, by rw [cell_of_row _ _ _ _ _ _ hg]; rfl, by rw [cell_of_row _ _ _ _ _ _ hg]; rfl, by rw [cell_of_row _ _ _ _ _ _ hg]; rfl, by rw [cell_of_row _ _ _ _ _ _ hg]; rfl⟩
/-- What the tests of Empty say. -/
structure EmpT (b d : ByteArray) (L H O : Int) (R : Bool) : Prop where
  low : 0 ≤ L ∧ (b.size : Int) ≤ L ∧ (d.size : Int) ≤ L
  high : H ≤ 200
  r1 : H < L → R = true
  r2 : clsIn b.data.toList O = false → R = true
  r3 : clsIn d.data.toList O = false → R = true
  r4 : ¬ H < L → clsIn b.data.toList O = true → clsIn d.data.toList O = true → O = 0 → R = decide (0 < L)
  r5 : ¬ H < L → clsIn b.data.toList O = true → clsIn d.data.toList O = true → O ≠ 0 → (b.size : Int) + d.size ≤ H → R = false
  r6 : ∀ n : Nat, ¬ H < L → clsIn b.data.toList O = true → clsIn d.data.toList O = true → O ≠ 0 → L ≤ n → (n : Int) ≤ H → (b.data.toList.drop (n - d.size) == d.data.toList.take (b.size + d.size - n)) = true → R = false
  r7 : ¬ H < L → clsIn b.data.toList O = true → clsIn d.data.toList O = true → O ≠ 0 → ¬ (b.size : Int) + d.size ≤ H → (∀ n : Nat, L ≤ n → (n : Int) ≤ H → (b.data.toList.drop (n - d.size) == d.data.toList.take (b.size + d.size - n)) = false) → R = true
theorem empT (a : Shp) : EmpT a.bg a.en (lowS a) (highS a) (ownS a) (empB a) := by
  have hb := size_list a.bg
  have hd := size_list a.en
  have hl : 0 ≤ lowS a ∧ (a.bg.size : Int) ≤ lowS a ∧ (a.en.size : Int) ≤ lowS a := by unfold lowS Shp.b Shp.e; omega
  have hh : highS a ≤ 200 := by unfold highS; omega
  have key : ∀ n : Nat, lowS a ≤ n → lapB a (a.b.length + a.e.length - n) = (a.bg.data.toList.drop (n - a.en.size) == a.en.data.toList.take (a.bg.size + a.en.size - n)) := by
    intro n hn
    unfold lapB Shp.b Shp.e
    rw [hb, hd, show a.bg.size - (a.bg.size + a.en.size - n) = if n ≤ a.bg.size + a.en.size then n - a.en.size else a.bg.size by split <;> omega]
    split
    · rfl
    · rename_i hc
      rw [List.drop_of_length_le (by omega), List.drop_of_length_le (by omega)]
  have hE : empB a = (decide (highS a < lowS a) || !(clsIn a.bg.data.toList (ownS a)) || !(clsIn a.en.data.toList (ownS a)) ||
    (if ownS a = 0 then decide (0 < lowS a) else if (a.bg.size : Int) + a.en.size ≤ highS a then false
     else !((List.range 201).any fun n => decide (lowS a ≤ (n : Int)) && decide ((n : Int) ≤ highS a) && lapB a (a.b.length + a.e.length - n)))) := by
    unfold empB
    rw [show (a.b.length : Int) + a.e.length = (a.bg.size : Int) + a.en.size by unfold Shp.b Shp.e; rw [hb, hd]]
  refine ⟨hl, hh, fun h => ?_, fun h => ?_, fun h => ?_, fun h1 h2 h3 h4 => ?_, fun h1 h2 h3 h4 h5 => ?_, fun n h1 h2 h3 h4 h5 h6 h7 => ?_, fun h1 h2 h3 h4 h5 h6 => ?_⟩
  · rw [hE, decide_eq_true h]; rfl
  · rw [hE, h]; simp
  · rw [hE, h]; simp
  · rw [hE, decide_eq_false h1, h2, h3, if_pos h4]; rfl
  · rw [hE, decide_eq_false h1, h2, h3, if_neg h4, if_pos h5]; rfl
  · rw [hE, decide_eq_false h1, h2, h3, if_neg h4]
    split
    · rfl
    · have : ((List.range 201).any fun n => decide (lowS a ≤ (n : Int)) && decide ((n : Int) ≤ highS a) && lapB a (a.b.length + a.e.length - n)) = true :=
        List.any_eq_true.2 ⟨n, List.mem_range.2 (by omega), by rw [decide_eq_true h5, decide_eq_true h6, key n h5, h7]; rfl⟩
      rw [this]; rfl
  · rw [hE, decide_eq_false h1, h2, h3, if_neg h4, if_neg h5]
    have : ((List.range 201).any fun n => decide (lowS a ≤ (n : Int)) && decide ((n : Int) ≤ highS a) && lapB a (a.b.length + a.e.length - n)) = false := by
      rw [Bool.eq_false_iff]
      intro hc
      obtain ⟨n, -, hn⟩ := List.any_eq_true.1 hc
      simp only [Bool.and_eq_true, decide_eq_true_eq] at hn
      rw [key n hn.1.1, h6 n hn.1.1 hn.1.2] at hn
      exact Bool.noConfusion hn.2
    rw [this]; rfl
set_option maxRecDepth 100000 in
set_option maxHeartbeats 4000000 in
theorem emp_any (a : Shp) (hb : a.bg.size ≤ 1000) (hd : a.en.size ≤ 1000) (w : World) : Calls Tryz.prog 16 #[shV a] w fun e w' => e = .returned (.bool (empB a)) ∧ Frm (fun _ => False) w w' := by
  have hlow := least_any a
  have hhigh := most_any a
  have hown := own_any a
  have hemp := empty_any
  have hT := empT a
  have hz0 : a.lo = 1 ∧ a.hi = 0 ∧ a.cl = 0 ∧ a.bg.toList = [] ∧ a.en.toList = [] → highS a < lowS a := by
    rintro ⟨h1, h2, -, -, -⟩
    unfold highS lowS
    omega
  generalize empB a = R at *
  generalize lowS a = L at *
  generalize highS a = H at *
  generalize ownS a = O at *
  obtain ⟨l, h, c, b, d⟩ := a
  unfold shV at *
  unfold none' at hemp
  simp only at hlow hhigh hown hemp hb hd hT hz0 ⊢
  have Hlow := Lib.hid hlow
  have Hhigh := Lib.hid hhigh
  have Hown := Lib.hid hown
  have Hemp := Lib.hid hemp
  have HT := Lib.hid hT
  clear hlow hhigh hown hemp hT
  go_enter Tryz.func16, Tryz.ntmps16
  go_upto_region 1 with fail
  obtain ⟨W1, x, hW, hx, hf, a0, a1, a2, a3, a4⟩ := one_sh w l h c b d
  rw [hW, hx]
  have HF := Lib.hid hf.drew
  clear hW hx hf
  refine wp_region_held_drew (S := fun w' => w'.cell? ⟨x, 0, none⟩ = some (.int .i64 (l)) ∧ w'.cell? ⟨x, 1, none⟩ = some (.int .i64 (h)) ∧ w'.cell? ⟨x, 2, none⟩ = some (.int .i64 (c)) ∧ w'.cell? ⟨x, 3, none⟩ = some (.string (b)) ∧ w'.cell? ⟨x, 4, none⟩ = some (.string (d))) (by kernel_rfl) ⟨a0, a1, a2, a3, a4⟩ (fun hHeld => ?_)
  refine wpAnyH_take (i := 0) (oi := ⟨some 8, _, _, _, _, _⟩) (v := (.agg #[.int .i64 (l), .int .i64 (h), .int .i64 (c), .string (b), .string (d)])) rfl (by kernel_rfl) (by kernel_rfl) (by kernel_rfl) (fun _ _ _ h => h) (.inl ⟨by rfl, fun w hw => by dsimp only at hw; go_simp⟩) hHeld ?_
  simp only [Act.put, List.setIfInBounds_toArray, List.set_cons_zero, List.set_cons_succ]
  refine wpAnyH_take (i := 2) (oi := ⟨some 10, _, _, _, _, _⟩) (v := (.agg #[.int .i64 (l), .int .i64 (h), .int .i64 (c), .string (b), .string (d)])) rfl (by kernel_rfl) (by kernel_rfl) (by kernel_rfl) (fun _ _ _ h => h) (.inl ⟨by rfl, fun w hw => by dsimp only at hw; go_simp⟩) hHeld ?_
  simp only [Act.put, List.setIfInBounds_toArray, List.set_cons_zero, List.set_cons_succ]
  refine wpAnyH_ready (rs := [1]) (by kernel_rfl) (by simp) ?_
  refine AllReadyH.cons (o := ⟨some 9, _, _, _, _, _⟩) rfl (fun K hK => ?_) AllReadyH.nil
  go_simp
  refine (Hlow.out _).mono ?_
  rintro e V1 ⟨rfl, f1⟩
  have HF1 := Lib.hid (HF.out.trans f1)
  refine hK.out _ _ ⟨f1.cell hHeld.1 (fun h => h), f1.cell hHeld.2.1 (fun h => h), f1.cell hHeld.2.2.1 (fun h => h), f1.cell hHeld.2.2.2.1 (fun h => h), f1.cell hHeld.2.2.2.2 (fun h => h)⟩ (fun hHeld => ?_)
  clear hK K f1 HF
  refine wpAnyH_ready (rs := [3]) (by kernel_rfl) (by simp) ?_
  refine AllReadyH.cons (o := ⟨some 11, _, _, _, _, _⟩) rfl (fun K hK => ?_) AllReadyH.nil
  go_simp
  refine (Hhigh.out _).mono ?_
  rintro e V2 ⟨rfl, f2⟩
  have HF2 := Lib.hid (HF1.out.trans f2)
  refine hK.out _ _ ⟨f2.cell hHeld.1 (fun h => h), f2.cell hHeld.2.1 (fun h => h), f2.cell hHeld.2.2.1 (fun h => h), f2.cell hHeld.2.2.2.1 (fun h => h), f2.cell hHeld.2.2.2.2 (fun h => h)⟩ (fun hHeld => ?_)
  clear hK K f2 HF1
  refine wpAnyH_take (i := 4) (oi := ⟨some 3, _, _, _, _, _⟩) (v := (.int .i64 (L))) rfl (by kernel_rfl) (by kernel_rfl) (by kernel_rfl) (fun _ _ _ h => h) (.inl ⟨by rfl, fun w hw => by dsimp only at hw; go_simp⟩) hHeld ?_
  simp only [Act.put, List.setIfInBounds_toArray, List.set_cons_zero, List.set_cons_succ]
  refine wpAnyH_take (i := 5) (oi := ⟨some 4, _, _, _, _, _⟩) (v := (.int .i64 (H))) rfl (by kernel_rfl) (by kernel_rfl) (by kernel_rfl) (fun _ _ _ h => h) (.inl ⟨by rfl, fun w hw => by dsimp only at hw; go_simp⟩) hHeld ?_
  simp only [Act.put, List.setIfInBounds_toArray, List.set_cons_zero, List.set_cons_succ]
  refine wpAnyH_done (by kernel_rfl) ?_ _
  obtain ⟨a0, a1, a2, a3, a4⟩ := hHeld
  go_upto_region 2 with fail
  have HG := Lib.hid HF2.out.drew
  clear HF2
  by_cases hz : l = 1 ∧ h = 0 ∧ c = 0 ∧ b.toList = [] ∧ d.toList = []
  · have hHL := hz0 hz
    have hR := HT.out.r1 hHL
    have hz1 : ∀ w : World, (if l = 1 then if h = 0 then if c = 0 then if b.toList = [] then if d.toList = [] then Result.ok (Next.value (Value.bool true)) w else Result.ok (Next.value (Value.bool false)) w else Result.ok (Next.value (Value.bool false)) w else Result.ok (Next.value (Value.bool false)) w else Result.ok (Next.value (Value.bool false)) w else Result.ok (Next.value (Value.bool false)) w) = Result.ok (Next.value (Value.bool true)) w := fun w => by
      rw [if_pos hz.1, if_pos hz.2.1, if_pos hz.2.2.1, if_pos hz.2.2.2.1, if_pos hz.2.2.2.2]
    have Hz := Lib.hid hz1
    clear hz hz0 hz1
    refine wp_region_held_drew (S := fun w' => w'.cell? ⟨x, 0, none⟩ = some (.int .i64 (l)) ∧ w'.cell? ⟨x, 1, none⟩ = some (.int .i64 (h)) ∧ w'.cell? ⟨x, 2, none⟩ = some (.int .i64 (c)) ∧ w'.cell? ⟨x, 3, none⟩ = some (.string (b)) ∧ w'.cell? ⟨x, 4, none⟩ = some (.string (d))) (by kernel_rfl) ⟨a0, a1, a2, a3, a4⟩ (fun hHeld => ?_)
    refine wpAnyH_take (i := 0) (oi := ⟨some 12, _, _, _, _, _⟩) (v := (.agg #[.int .i64 (l), .int .i64 (h), .int .i64 (c), .string (b), .string (d)])) rfl (by kernel_rfl) (by kernel_rfl) (by kernel_rfl) (fun _ _ _ h => h) (.inl ⟨by rfl, fun w hw => by dsimp only at hw; go_simp⟩) hHeld ?_
    simp only [Act.put, List.setIfInBounds_toArray, List.set_cons_zero, List.set_cons_succ]
    refine wpAnyH_ready (rs := [1]) (by kernel_rfl) (by simp) ?_
    refine AllReadyH.cons (o := ⟨some 13, _, _, _, _, _⟩) rfl (fun K hK => ?_) AllReadyH.nil
    go_simp
    refine (Hemp.out _).mono ?_
    rintro e V3 ⟨rfl, f3⟩
    have HF3 := Lib.hid (HG.out.trans f3)
    refine hK.out _ _ ⟨f3.cell hHeld.1 (fun h => h), f3.cell hHeld.2.1 (fun h => h), f3.cell hHeld.2.2.1 (fun h => h), f3.cell hHeld.2.2.2.1 (fun h => h), f3.cell hHeld.2.2.2.2 (fun h => h)⟩ (fun hHeld => ?_)
    clear hK K f3 HG
    refine wpAnyH_take (i := 2) (oi := ⟨some 14, _, _, _, _, _⟩) (v := (.bool (true))) rfl (by kernel_rfl) (by kernel_rfl) (by kernel_rfl) (fun _ _ _ h => h) (.inl ⟨by rfl, fun w hw => by dsimp only at hw; go_simp; exact Hz.out w⟩) hHeld ?_
    simp only [Act.put, List.setIfInBounds_toArray, List.set_cons_zero, List.set_cons_succ]
    refine wpAnyH_take (i := 3) (oi := ⟨some 15, _, _, _, _, _⟩) (v := (.bool (true))) rfl (by kernel_rfl) (by kernel_rfl) (by kernel_rfl) (fun _ _ _ h => h) (.inl ⟨by rfl, fun w hw => by dsimp only at hw; go_simp⟩) hHeld ?_
    simp only [Act.put, List.setIfInBounds_toArray, List.set_cons_zero, List.set_cons_succ]
    refine wpAnyH_take (i := 4) (oi := ⟨some 16, _, _, _, _, _⟩) rfl (by kernel_rfl) (by kernel_rfl) (by kernel_rfl) (fun _ _ _ h => h) (.inr ⟨by rfl, rfl⟩) hHeld ?_
    simp only [Act.put, List.setIfInBounds_toArray, List.set_cons_zero, List.set_cons_succ]
    refine wpAnyH_take (i := 5) (oi := ⟨some 17, _, _, _, _, _⟩) rfl (by kernel_rfl) (by kernel_rfl) (by kernel_rfl) (fun _ _ _ h => h) (.inr ⟨by rfl, rfl⟩) hHeld ?_
    simp only [Act.put, List.setIfInBounds_toArray, List.set_cons_zero, List.set_cons_succ]
    refine wpAnyH_take (i := 6) (oi := ⟨some 18, _, _, _, _, _⟩) rfl (by kernel_rfl) (by kernel_rfl) (by kernel_rfl) (fun _ _ _ h => h) (.inr ⟨by rfl, rfl⟩) hHeld ?_
    simp only [Act.put, List.setIfInBounds_toArray, List.set_cons_zero, List.set_cons_succ]
    refine wpAnyH_take (i := 7) (oi := ⟨some 19, _, _, _, _, _⟩) (v := (.bool (true))) rfl (by kernel_rfl) (by kernel_rfl) (by kernel_rfl) (fun _ _ _ h => h) (.inl ⟨by rfl, fun w hw => by dsimp only at hw; go_simp⟩) hHeld ?_
    simp only [Act.put, List.setIfInBounds_toArray, List.set_cons_zero, List.set_cons_succ]
    refine wpAnyH_done (by kernel_rfl) ?_ _
    go_wp2_with fail
    go_ret
    exact ⟨ret_bool (by first | rfl | exact hR.symm), HF3.out⟩
  · have hz1 : l = 1 → h = 0 → c = 0 → b.toList = [] → ¬ d.toList = [] := fun h1 h2 h3 h4 h5 => hz ⟨h1, h2, h3, h4, h5⟩
    have Hz := Lib.hid hz1
    clear hz hz0 hz1
    by_cases hHL : H < L
    · have hR := HT.out.r1 hHL
      refine wp_region_held_drew (S := fun w' => w'.cell? ⟨x, 0, none⟩ = some (.int .i64 (l)) ∧ w'.cell? ⟨x, 1, none⟩ = some (.int .i64 (h)) ∧ w'.cell? ⟨x, 2, none⟩ = some (.int .i64 (c)) ∧ w'.cell? ⟨x, 3, none⟩ = some (.string (b)) ∧ w'.cell? ⟨x, 4, none⟩ = some (.string (d))) (by kernel_rfl) ⟨a0, a1, a2, a3, a4⟩ (fun hHeld => ?_)
      refine wpAnyH_take (i := 0) (oi := ⟨some 12, _, _, _, _, _⟩) (v := (.agg #[.int .i64 (l), .int .i64 (h), .int .i64 (c), .string (b), .string (d)])) rfl (by kernel_rfl) (by kernel_rfl) (by kernel_rfl) (fun _ _ _ h => h) (.inl ⟨by rfl, fun w hw => by dsimp only at hw; go_simp⟩) hHeld ?_
      simp only [Act.put, List.setIfInBounds_toArray, List.set_cons_zero, List.set_cons_succ]
      refine wpAnyH_ready (rs := [1]) (by kernel_rfl) (by simp) ?_
      refine AllReadyH.cons (o := ⟨some 13, _, _, _, _, _⟩) rfl (fun K hK => ?_) AllReadyH.nil
      go_simp
      refine (Hemp.out _).mono ?_
      rintro e V3 ⟨rfl, f3⟩
      have HF3 := Lib.hid (HG.out.trans f3)
      refine hK.out _ _ ⟨f3.cell hHeld.1 (fun h => h), f3.cell hHeld.2.1 (fun h => h), f3.cell hHeld.2.2.1 (fun h => h), f3.cell hHeld.2.2.2.1 (fun h => h), f3.cell hHeld.2.2.2.2 (fun h => h)⟩ (fun hHeld => ?_)
      clear hK K f3 HG
      refine wpAnyH_take (i := 2) (oi := ⟨some 14, _, _, _, _, _⟩) (v := (.bool (false))) rfl (by kernel_rfl) (by kernel_rfl) (by kernel_rfl) (fun _ _ _ h => h) (.inl ⟨by rfl, fun w hw => by dsimp only at hw; go_simp; exact Hz.out⟩) hHeld ?_
      simp only [Act.put, List.setIfInBounds_toArray, List.set_cons_zero, List.set_cons_succ]
      refine wpAnyH_take (i := 3) (oi := ⟨some 15, _, _, _, _, _⟩) (v := (.bool (false))) rfl (by kernel_rfl) (by kernel_rfl) (by kernel_rfl) (fun _ _ _ h => h) (.inl ⟨by rfl, fun w hw => by dsimp only at hw; go_simp⟩) hHeld ?_
      simp only [Act.put, List.setIfInBounds_toArray, List.set_cons_zero, List.set_cons_succ]
      refine wpAnyH_take (i := 4) (oi := ⟨some 16, _, _, _, _, _⟩) (v := (.int .i64 (L))) rfl (by kernel_rfl) (by kernel_rfl) (by kernel_rfl) (fun _ _ _ h => h) (.inl ⟨by rfl, fun w hw => by dsimp only at hw; go_simp⟩) hHeld ?_
      simp only [Act.put, List.setIfInBounds_toArray, List.set_cons_zero, List.set_cons_succ]
      refine wpAnyH_take (i := 5) (oi := ⟨some 17, _, _, _, _, _⟩) (v := (.int .i64 (H))) rfl (by kernel_rfl) (by kernel_rfl) (by kernel_rfl) (fun _ _ _ h => h) (.inl ⟨by rfl, fun w hw => by dsimp only at hw; go_simp⟩) hHeld ?_
      simp only [Act.put, List.setIfInBounds_toArray, List.set_cons_zero, List.set_cons_succ]
      refine wpAnyH_take (i := 6) (oi := ⟨some 18, _, _, _, _, _⟩) (v := (.bool (true))) rfl (by kernel_rfl) (by kernel_rfl) (by kernel_rfl) (fun _ _ _ h => h) (.inl ⟨by rfl, fun w hw => by dsimp only at hw; go_simp⟩) hHeld ?_
      simp only [Act.put, List.setIfInBounds_toArray, List.set_cons_zero, List.set_cons_succ]
      refine wpAnyH_take (i := 7) (oi := ⟨some 19, _, _, _, _, _⟩) (v := (.bool (true))) rfl (by kernel_rfl) (by kernel_rfl) (by kernel_rfl) (fun _ _ _ h => h) (.inl ⟨by rfl, fun w hw => by dsimp only at hw; go_simp⟩) hHeld ?_
      simp only [Act.put, List.setIfInBounds_toArray, List.set_cons_zero, List.set_cons_succ]
      refine wpAnyH_done (by kernel_rfl) ?_ _
      go_wp2_with fail
      go_ret
      exact ⟨ret_bool (by first | rfl | exact hR.symm), HF3.out⟩
    · have HHL : Hid (¬ H < L) := Lib.hid hHL
      refine wp_region_held_drew (S := fun w' => w'.cell? ⟨x, 0, none⟩ = some (.int .i64 (l)) ∧ w'.cell? ⟨x, 1, none⟩ = some (.int .i64 (h)) ∧ w'.cell? ⟨x, 2, none⟩ = some (.int .i64 (c)) ∧ w'.cell? ⟨x, 3, none⟩ = some (.string (b)) ∧ w'.cell? ⟨x, 4, none⟩ = some (.string (d))) (by kernel_rfl) ⟨a0, a1, a2, a3, a4⟩ (fun hHeld => ?_)
      refine wpAnyH_take (i := 0) (oi := ⟨some 12, _, _, _, _, _⟩) (v := (.agg #[.int .i64 (l), .int .i64 (h), .int .i64 (c), .string (b), .string (d)])) rfl (by kernel_rfl) (by kernel_rfl) (by kernel_rfl) (fun _ _ _ h => h) (.inl ⟨by rfl, fun w hw => by dsimp only at hw; go_simp⟩) hHeld ?_
      simp only [Act.put, List.setIfInBounds_toArray, List.set_cons_zero, List.set_cons_succ]
      refine wpAnyH_ready (rs := [1]) (by kernel_rfl) (by simp) ?_
      refine AllReadyH.cons (o := ⟨some 13, _, _, _, _, _⟩) rfl (fun K hK => ?_) AllReadyH.nil
      go_simp
      refine (Hemp.out _).mono ?_
      rintro e V3 ⟨rfl, f3⟩
      have HF3 := Lib.hid (HG.out.trans f3)
      refine hK.out _ _ ⟨f3.cell hHeld.1 (fun h => h), f3.cell hHeld.2.1 (fun h => h), f3.cell hHeld.2.2.1 (fun h => h), f3.cell hHeld.2.2.2.1 (fun h => h), f3.cell hHeld.2.2.2.2 (fun h => h)⟩ (fun hHeld => ?_)
      clear hK K f3 HG
      refine wpAnyH_take (i := 2) (oi := ⟨some 14, _, _, _, _, _⟩) (v := (.bool (false))) rfl (by kernel_rfl) (by kernel_rfl) (by kernel_rfl) (fun _ _ _ h => h) (.inl ⟨by rfl, fun w hw => by dsimp only at hw; go_simp; exact Hz.out⟩) hHeld ?_
      simp only [Act.put, List.setIfInBounds_toArray, List.set_cons_zero, List.set_cons_succ]
      refine wpAnyH_take (i := 3) (oi := ⟨some 15, _, _, _, _, _⟩) (v := (.bool (false))) rfl (by kernel_rfl) (by kernel_rfl) (by kernel_rfl) (fun _ _ _ h => h) (.inl ⟨by rfl, fun w hw => by dsimp only at hw; go_simp⟩) hHeld ?_
      simp only [Act.put, List.setIfInBounds_toArray, List.set_cons_zero, List.set_cons_succ]
      refine wpAnyH_take (i := 4) (oi := ⟨some 16, _, _, _, _, _⟩) (v := (.int .i64 (L))) rfl (by kernel_rfl) (by kernel_rfl) (by kernel_rfl) (fun _ _ _ h => h) (.inl ⟨by rfl, fun w hw => by dsimp only at hw; go_simp⟩) hHeld ?_
      simp only [Act.put, List.setIfInBounds_toArray, List.set_cons_zero, List.set_cons_succ]
      refine wpAnyH_take (i := 5) (oi := ⟨some 17, _, _, _, _, _⟩) (v := (.int .i64 (H))) rfl (by kernel_rfl) (by kernel_rfl) (by kernel_rfl) (fun _ _ _ h => h) (.inl ⟨by rfl, fun w hw => by dsimp only at hw; go_simp⟩) hHeld ?_
      simp only [Act.put, List.setIfInBounds_toArray, List.set_cons_zero, List.set_cons_succ]
      refine wpAnyH_take (i := 6) (oi := ⟨some 18, _, _, _, _, _⟩) (v := (.bool (false))) rfl (by kernel_rfl) (by kernel_rfl) (by kernel_rfl) (fun _ _ _ h => h) (.inl ⟨by rfl, fun w hw => by dsimp only at hw; go_simp⟩) hHeld ?_
      simp only [Act.put, List.setIfInBounds_toArray, List.set_cons_zero, List.set_cons_succ]
      refine wpAnyH_take (i := 7) (oi := ⟨some 19, _, _, _, _, _⟩) (v := (.bool (false))) rfl (by kernel_rfl) (by kernel_rfl) (by kernel_rfl) (fun _ _ _ h => h) (.inl ⟨by rfl, fun w hw => by dsimp only at hw; go_simp⟩) hHeld ?_
      simp only [Act.put, List.setIfInBounds_toArray, List.set_cons_zero, List.set_cons_succ]
      refine wpAnyH_done (by kernel_rfl) ?_ _
      obtain ⟨a0, a1, a2, a3, a4⟩ := hHeld
      clear Hz
      go_upto_region 4 with fail
      have HG := Lib.hid HF3.out.drew
      clear HF3
      have hbe := among_bits b.data.toList O
      have hde := among_bits d.data.toList O
      cases hcb : clsIn b.data.toList O
      · have hR := HT.out.r2 hcb
        have hB : subI (bitsI b.data.toList) O = false := by unfold subI; rw [hbe, hcb]
        have HB := Lib.hid hB
        clear hB hbe hde hcb
        refine wp_region_held_drew (S := fun w' => w'.cell? ⟨x, 0, none⟩ = some (.int .i64 (l)) ∧ w'.cell? ⟨x, 1, none⟩ = some (.int .i64 (h)) ∧ w'.cell? ⟨x, 2, none⟩ = some (.int .i64 (c)) ∧ w'.cell? ⟨x, 3, none⟩ = some (.string (b)) ∧ w'.cell? ⟨x, 4, none⟩ = some (.string (d))) (by kernel_rfl) ⟨a0, a1, a2, a3, a4⟩ (fun hHeld => ?_)
        refine wpAnyH_take (i := 0) (oi := ⟨some 20, _, _, _, _, _⟩) (v := (.pointer (some ⟨x, 3, none⟩))) rfl (by kernel_rfl) (by kernel_rfl) (by kernel_rfl) (fun _ _ _ h => h) (.inl ⟨by rfl, fun w hw => by dsimp only at hw; go_simp⟩) hHeld ?_
        simp only [Act.put, List.setIfInBounds_toArray, List.set_cons_zero, List.set_cons_succ]
        refine wpAnyH_take (i := 1) (oi := ⟨some 21, _, _, _, _, _⟩) (v := (.string (b))) rfl (by kernel_rfl) (by kernel_rfl) (by kernel_rfl) (fun _ _ _ h => h) (.inl ⟨by rfl, fun w hw => by dsimp only at hw; go_simp⟩) hHeld ?_
        simp only [Act.put, List.setIfInBounds_toArray, List.set_cons_zero, List.set_cons_succ]
        refine wpAnyH_take (i := 3) (oi := ⟨some 23, _, _, _, _, _⟩) (v := (.agg #[.int .i64 (l), .int .i64 (h), .int .i64 (c), .string (b), .string (d)])) rfl (by kernel_rfl) (by kernel_rfl) (by kernel_rfl) (fun _ _ _ h => h) (.inl ⟨by rfl, fun w hw => by dsimp only at hw; go_simp⟩) hHeld ?_
        simp only [Act.put, List.setIfInBounds_toArray, List.set_cons_zero, List.set_cons_succ]
        refine wpAnyH_ready (rs := [2]) (by kernel_rfl) (by simp) ?_
        refine AllReadyH.cons (o := ⟨some 22, _, _, _, _, _⟩) rfl (fun K hK => ?_) AllReadyH.nil
        go_simp
        refine (bitsOf_any b (by omega) _).mono ?_
        rintro e V4 ⟨rfl, rfl⟩
        refine hK.out _ _ hHeld (fun hHeld => ?_)
        clear hK K
        refine wpAnyH_ready (rs := [4]) (by kernel_rfl) (by simp) ?_
        refine AllReadyH.cons (o := ⟨some 24, _, _, _, _, _⟩) rfl (fun K hK => ?_) AllReadyH.nil
        go_simp
        refine (Hown.out _).mono ?_
        rintro e V5 ⟨rfl, f5⟩
        have HF5 := Lib.hid (HG.out.trans f5)
        refine hK.out _ _ ⟨f5.cell hHeld.1 (fun h => h), f5.cell hHeld.2.1 (fun h => h), f5.cell hHeld.2.2.1 (fun h => h), f5.cell hHeld.2.2.2.1 (fun h => h), f5.cell hHeld.2.2.2.2 (fun h => h)⟩ (fun hHeld => ?_)
        clear hK K f5 HG
        refine wpAnyH_ready (rs := [5]) (by kernel_rfl) (by simp) ?_
        refine AllReadyH.cons (o := ⟨some 25, _, _, _, _, _⟩) rfl (fun K hK => ?_) AllReadyH.nil
        go_simp
        refine ((among_any (bitsI b.data.toList) (O) _)).mono ?_
        rintro e V6 ⟨rfl, rfl⟩
        rw [HB.out]
        refine hK.out _ _ hHeld (fun hHeld => ?_)
        clear hK K
        refine wpAnyH_take (i := 6) (oi := ⟨some 26, _, _, _, _, _⟩) (v := (.bool (true))) rfl (by kernel_rfl) (by kernel_rfl) (by kernel_rfl) (fun _ _ _ h => h) (.inl ⟨by rfl, fun w hw => by dsimp only at hw; go_simp⟩) hHeld ?_
        simp only [Act.put, List.setIfInBounds_toArray, List.set_cons_zero, List.set_cons_succ]
        refine wpAnyH_take (i := 7) (oi := ⟨some 27, _, _, _, _, _⟩) (v := (.bool (true))) rfl (by kernel_rfl) (by kernel_rfl) (by kernel_rfl) (fun _ _ _ h => h) (.inl ⟨by rfl, fun w hw => by dsimp only at hw; go_simp⟩) hHeld ?_
        simp only [Act.put, List.setIfInBounds_toArray, List.set_cons_zero, List.set_cons_succ]
        refine wpAnyH_take (i := 8) (oi := ⟨some 28, _, _, _, _, _⟩) rfl (by kernel_rfl) (by kernel_rfl) (by kernel_rfl) (fun _ _ _ h => h) (.inr ⟨by rfl, rfl⟩) hHeld ?_
        simp only [Act.put, List.setIfInBounds_toArray, List.set_cons_zero, List.set_cons_succ]
        refine wpAnyH_take (i := 9) (oi := ⟨some 29, _, _, _, _, _⟩) rfl (by kernel_rfl) (by kernel_rfl) (by kernel_rfl) (fun _ _ _ h => h) (.inr ⟨by rfl, rfl⟩) hHeld ?_
        simp only [Act.put, List.setIfInBounds_toArray, List.set_cons_zero, List.set_cons_succ]
        refine wpAnyH_take (i := 10) (oi := ⟨some 30, _, _, _, _, _⟩) rfl (by kernel_rfl) (by kernel_rfl) (by kernel_rfl) (fun _ _ _ h => h) (.inr ⟨by rfl, rfl⟩) hHeld ?_
        simp only [Act.put, List.setIfInBounds_toArray, List.set_cons_zero, List.set_cons_succ]
        refine wpAnyH_take (i := 11) (oi := ⟨some 31, _, _, _, _, _⟩) rfl (by kernel_rfl) (by kernel_rfl) (by kernel_rfl) (fun _ _ _ h => h) (.inr ⟨by rfl, rfl⟩) hHeld ?_
        simp only [Act.put, List.setIfInBounds_toArray, List.set_cons_zero, List.set_cons_succ]
        refine wpAnyH_take (i := 12) (oi := ⟨some 32, _, _, _, _, _⟩) rfl (by kernel_rfl) (by kernel_rfl) (by kernel_rfl) (fun _ _ _ h => h) (.inr ⟨by rfl, rfl⟩) hHeld ?_
        simp only [Act.put, List.setIfInBounds_toArray, List.set_cons_zero, List.set_cons_succ]
        refine wpAnyH_take (i := 13) (oi := ⟨some 33, _, _, _, _, _⟩) rfl (by kernel_rfl) (by kernel_rfl) (by kernel_rfl) (fun _ _ _ h => h) (.inr ⟨by rfl, rfl⟩) hHeld ?_
        simp only [Act.put, List.setIfInBounds_toArray, List.set_cons_zero, List.set_cons_succ]
        refine wpAnyH_take (i := 14) (oi := ⟨some 34, _, _, _, _, _⟩) rfl (by kernel_rfl) (by kernel_rfl) (by kernel_rfl) (fun _ _ _ h => h) (.inr ⟨by rfl, rfl⟩) hHeld ?_
        simp only [Act.put, List.setIfInBounds_toArray, List.set_cons_zero, List.set_cons_succ]
        refine wpAnyH_take (i := 15) (oi := ⟨some 35, _, _, _, _, _⟩) (v := (.bool (true))) rfl (by kernel_rfl) (by kernel_rfl) (by kernel_rfl) (fun _ _ _ h => h) (.inl ⟨by rfl, fun w hw => by dsimp only at hw; go_simp⟩) hHeld ?_
        simp only [Act.put, List.setIfInBounds_toArray, List.set_cons_zero, List.set_cons_succ]
        refine wpAnyH_done (by kernel_rfl) ?_ _
        go_wp2_with fail
        go_ret
        exact ⟨ret_bool (by first | rfl | exact hR.symm), HF5.out⟩
      · have hB : subI (bitsI b.data.toList) O = true := by unfold subI; rw [hbe, hcb]
        have HB := Lib.hid hB
        clear hB hbe
        cases hcd : clsIn d.data.toList O
        · have hR := HT.out.r3 hcd
          have hD : subI (bitsI d.data.toList) O = false := by unfold subI; rw [hde, hcd]
          have HD := Lib.hid hD
          clear hD hde hcd hcb
          refine wp_region_held_drew (S := fun w' => w'.cell? ⟨x, 0, none⟩ = some (.int .i64 (l)) ∧ w'.cell? ⟨x, 1, none⟩ = some (.int .i64 (h)) ∧ w'.cell? ⟨x, 2, none⟩ = some (.int .i64 (c)) ∧ w'.cell? ⟨x, 3, none⟩ = some (.string (b)) ∧ w'.cell? ⟨x, 4, none⟩ = some (.string (d))) (by kernel_rfl) ⟨a0, a1, a2, a3, a4⟩ (fun hHeld => ?_)
          refine wpAnyH_take (i := 0) (oi := ⟨some 20, _, _, _, _, _⟩) (v := (.pointer (some ⟨x, 3, none⟩))) rfl (by kernel_rfl) (by kernel_rfl) (by kernel_rfl) (fun _ _ _ h => h) (.inl ⟨by rfl, fun w hw => by dsimp only at hw; go_simp⟩) hHeld ?_
          simp only [Act.put, List.setIfInBounds_toArray, List.set_cons_zero, List.set_cons_succ]
          refine wpAnyH_take (i := 1) (oi := ⟨some 21, _, _, _, _, _⟩) (v := (.string (b))) rfl (by kernel_rfl) (by kernel_rfl) (by kernel_rfl) (fun _ _ _ h => h) (.inl ⟨by rfl, fun w hw => by dsimp only at hw; go_simp⟩) hHeld ?_
          simp only [Act.put, List.setIfInBounds_toArray, List.set_cons_zero, List.set_cons_succ]
          refine wpAnyH_take (i := 3) (oi := ⟨some 23, _, _, _, _, _⟩) (v := (.agg #[.int .i64 (l), .int .i64 (h), .int .i64 (c), .string (b), .string (d)])) rfl (by kernel_rfl) (by kernel_rfl) (by kernel_rfl) (fun _ _ _ h => h) (.inl ⟨by rfl, fun w hw => by dsimp only at hw; go_simp⟩) hHeld ?_
          simp only [Act.put, List.setIfInBounds_toArray, List.set_cons_zero, List.set_cons_succ]
          refine wpAnyH_ready (rs := [2]) (by kernel_rfl) (by simp) ?_
          refine AllReadyH.cons (o := ⟨some 22, _, _, _, _, _⟩) rfl (fun K hK => ?_) AllReadyH.nil
          go_simp
          refine (bitsOf_any b (by omega) _).mono ?_
          rintro e V4 ⟨rfl, rfl⟩
          refine hK.out _ _ hHeld (fun hHeld => ?_)
          clear hK K
          refine wpAnyH_ready (rs := [4]) (by kernel_rfl) (by simp) ?_
          refine AllReadyH.cons (o := ⟨some 24, _, _, _, _, _⟩) rfl (fun K hK => ?_) AllReadyH.nil
          go_simp
          refine (Hown.out _).mono ?_
          rintro e V5 ⟨rfl, f5⟩
          have HF5 := Lib.hid (HG.out.trans f5)
          refine hK.out _ _ ⟨f5.cell hHeld.1 (fun h => h), f5.cell hHeld.2.1 (fun h => h), f5.cell hHeld.2.2.1 (fun h => h), f5.cell hHeld.2.2.2.1 (fun h => h), f5.cell hHeld.2.2.2.2 (fun h => h)⟩ (fun hHeld => ?_)
          clear hK K f5 HG
          refine wpAnyH_ready (rs := [5]) (by kernel_rfl) (by simp) ?_
          refine AllReadyH.cons (o := ⟨some 25, _, _, _, _, _⟩) rfl (fun K hK => ?_) AllReadyH.nil
          go_simp
          refine ((among_any (bitsI b.data.toList) (O) _)).mono ?_
          rintro e V6 ⟨rfl, rfl⟩
          rw [HB.out]
          refine hK.out _ _ hHeld (fun hHeld => ?_)
          clear hK K
          refine wpAnyH_take (i := 6) (oi := ⟨some 26, _, _, _, _, _⟩) (v := (.bool (false))) rfl (by kernel_rfl) (by kernel_rfl) (by kernel_rfl) (fun _ _ _ h => h) (.inl ⟨by rfl, fun w hw => by dsimp only at hw; go_simp⟩) hHeld ?_
          simp only [Act.put, List.setIfInBounds_toArray, List.set_cons_zero, List.set_cons_succ]
          refine wpAnyH_take (i := 7) (oi := ⟨some 27, _, _, _, _, _⟩) (v := (.bool (false))) rfl (by kernel_rfl) (by kernel_rfl) (by kernel_rfl) (fun _ _ _ h => h) (.inl ⟨by rfl, fun w hw => by dsimp only at hw; go_simp⟩) hHeld ?_
          simp only [Act.put, List.setIfInBounds_toArray, List.set_cons_zero, List.set_cons_succ]
          refine wpAnyH_take (i := 8) (oi := ⟨some 28, _, _, _, _, _⟩) (v := (.pointer (some ⟨x, 4, none⟩))) rfl (by kernel_rfl) (by kernel_rfl) (by kernel_rfl) (fun _ _ _ h => h) (.inl ⟨by rfl, fun w hw => by dsimp only at hw; go_simp⟩) hHeld ?_
          simp only [Act.put, List.setIfInBounds_toArray, List.set_cons_zero, List.set_cons_succ]
          refine wpAnyH_take (i := 9) (oi := ⟨some 29, _, _, _, _, _⟩) (v := (.string (d))) rfl (by kernel_rfl) (by kernel_rfl) (by kernel_rfl) (fun _ _ _ h => h) (.inl ⟨by rfl, fun w hw => by dsimp only at hw; go_simp⟩) hHeld ?_
          simp only [Act.put, List.setIfInBounds_toArray, List.set_cons_zero, List.set_cons_succ]
          refine wpAnyH_take (i := 11) (oi := ⟨some 31, _, _, _, _, _⟩) (v := (.agg #[.int .i64 (l), .int .i64 (h), .int .i64 (c), .string (b), .string (d)])) rfl (by kernel_rfl) (by kernel_rfl) (by kernel_rfl) (fun _ _ _ h => h) (.inl ⟨by rfl, fun w hw => by dsimp only at hw; go_simp⟩) hHeld ?_
          simp only [Act.put, List.setIfInBounds_toArray, List.set_cons_zero, List.set_cons_succ]
          refine wpAnyH_ready (rs := [10]) (by kernel_rfl) (by simp) ?_
          refine AllReadyH.cons (o := ⟨some 30, _, _, _, _, _⟩) rfl (fun K hK => ?_) AllReadyH.nil
          go_simp
          refine (bitsOf_any d (by omega) _).mono ?_
          rintro e V7 ⟨rfl, rfl⟩
          refine hK.out _ _ hHeld (fun hHeld => ?_)
          clear hK K
          refine wpAnyH_ready (rs := [12]) (by kernel_rfl) (by simp) ?_
          refine AllReadyH.cons (o := ⟨some 32, _, _, _, _, _⟩) rfl (fun K hK => ?_) AllReadyH.nil
          go_simp
          refine (Hown.out _).mono ?_
          rintro e V8 ⟨rfl, f8⟩
          have HF8 := Lib.hid (HF5.out.trans f8)
          refine hK.out _ _ ⟨f8.cell hHeld.1 (fun h => h), f8.cell hHeld.2.1 (fun h => h), f8.cell hHeld.2.2.1 (fun h => h), f8.cell hHeld.2.2.2.1 (fun h => h), f8.cell hHeld.2.2.2.2 (fun h => h)⟩ (fun hHeld => ?_)
          clear hK K f8 HF5
          refine wpAnyH_ready (rs := [13]) (by kernel_rfl) (by simp) ?_
          refine AllReadyH.cons (o := ⟨some 33, _, _, _, _, _⟩) rfl (fun K hK => ?_) AllReadyH.nil
          go_simp
          refine ((among_any (bitsI d.data.toList) (O) _)).mono ?_
          rintro e V9 ⟨rfl, rfl⟩
          rw [HD.out]
          refine hK.out _ _ hHeld (fun hHeld => ?_)
          clear hK K
          refine wpAnyH_take (i := 14) (oi := ⟨some 34, _, _, _, _, _⟩) (v := (.bool (true))) rfl (by kernel_rfl) (by kernel_rfl) (by kernel_rfl) (fun _ _ _ h => h) (.inl ⟨by rfl, fun w hw => by dsimp only at hw; go_simp⟩) hHeld ?_
          simp only [Act.put, List.setIfInBounds_toArray, List.set_cons_zero, List.set_cons_succ]
          refine wpAnyH_take (i := 15) (oi := ⟨some 35, _, _, _, _, _⟩) (v := (.bool (true))) rfl (by kernel_rfl) (by kernel_rfl) (by kernel_rfl) (fun _ _ _ h => h) (.inl ⟨by rfl, fun w hw => by dsimp only at hw; go_simp⟩) hHeld ?_
          simp only [Act.put, List.setIfInBounds_toArray, List.set_cons_zero, List.set_cons_succ]
          refine wpAnyH_done (by kernel_rfl) ?_ _
          go_wp2_with fail
          go_ret
          exact ⟨ret_bool (by first | rfl | exact hR.symm), HF8.out⟩
        · have hD : subI (bitsI d.data.toList) O = true := by unfold subI; rw [hde, hcd]
          have HD := Lib.hid hD
          have Hcd := Lib.hid hcd
          have Hcb := Lib.hid hcb
          clear hD hde hcd hcb
          refine wp_region_held_drew (S := fun w' => w'.cell? ⟨x, 0, none⟩ = some (.int .i64 (l)) ∧ w'.cell? ⟨x, 1, none⟩ = some (.int .i64 (h)) ∧ w'.cell? ⟨x, 2, none⟩ = some (.int .i64 (c)) ∧ w'.cell? ⟨x, 3, none⟩ = some (.string (b)) ∧ w'.cell? ⟨x, 4, none⟩ = some (.string (d))) (by kernel_rfl) ⟨a0, a1, a2, a3, a4⟩ (fun hHeld => ?_)
          refine wpAnyH_take (i := 0) (oi := ⟨some 20, _, _, _, _, _⟩) (v := (.pointer (some ⟨x, 3, none⟩))) rfl (by kernel_rfl) (by kernel_rfl) (by kernel_rfl) (fun _ _ _ h => h) (.inl ⟨by rfl, fun w hw => by dsimp only at hw; go_simp⟩) hHeld ?_
          simp only [Act.put, List.setIfInBounds_toArray, List.set_cons_zero, List.set_cons_succ]
          refine wpAnyH_take (i := 1) (oi := ⟨some 21, _, _, _, _, _⟩) (v := (.string (b))) rfl (by kernel_rfl) (by kernel_rfl) (by kernel_rfl) (fun _ _ _ h => h) (.inl ⟨by rfl, fun w hw => by dsimp only at hw; go_simp⟩) hHeld ?_
          simp only [Act.put, List.setIfInBounds_toArray, List.set_cons_zero, List.set_cons_succ]
          refine wpAnyH_take (i := 3) (oi := ⟨some 23, _, _, _, _, _⟩) (v := (.agg #[.int .i64 (l), .int .i64 (h), .int .i64 (c), .string (b), .string (d)])) rfl (by kernel_rfl) (by kernel_rfl) (by kernel_rfl) (fun _ _ _ h => h) (.inl ⟨by rfl, fun w hw => by dsimp only at hw; go_simp⟩) hHeld ?_
          simp only [Act.put, List.setIfInBounds_toArray, List.set_cons_zero, List.set_cons_succ]
          refine wpAnyH_ready (rs := [2]) (by kernel_rfl) (by simp) ?_
          refine AllReadyH.cons (o := ⟨some 22, _, _, _, _, _⟩) rfl (fun K hK => ?_) AllReadyH.nil
          go_simp
          refine (bitsOf_any b (by omega) _).mono ?_
          rintro e V4 ⟨rfl, rfl⟩
          refine hK.out _ _ hHeld (fun hHeld => ?_)
          clear hK K
          refine wpAnyH_ready (rs := [4]) (by kernel_rfl) (by simp) ?_
          refine AllReadyH.cons (o := ⟨some 24, _, _, _, _, _⟩) rfl (fun K hK => ?_) AllReadyH.nil
          go_simp
          refine (Hown.out _).mono ?_
          rintro e V5 ⟨rfl, f5⟩
          have HF5 := Lib.hid (HG.out.trans f5)
          refine hK.out _ _ ⟨f5.cell hHeld.1 (fun h => h), f5.cell hHeld.2.1 (fun h => h), f5.cell hHeld.2.2.1 (fun h => h), f5.cell hHeld.2.2.2.1 (fun h => h), f5.cell hHeld.2.2.2.2 (fun h => h)⟩ (fun hHeld => ?_)
          clear hK K f5 HG
          refine wpAnyH_ready (rs := [5]) (by kernel_rfl) (by simp) ?_
          refine AllReadyH.cons (o := ⟨some 25, _, _, _, _, _⟩) rfl (fun K hK => ?_) AllReadyH.nil
          go_simp
          refine ((among_any (bitsI b.data.toList) (O) _)).mono ?_
          rintro e V6 ⟨rfl, rfl⟩
          rw [HB.out]
          refine hK.out _ _ hHeld (fun hHeld => ?_)
          clear hK K
          refine wpAnyH_take (i := 6) (oi := ⟨some 26, _, _, _, _, _⟩) (v := (.bool (false))) rfl (by kernel_rfl) (by kernel_rfl) (by kernel_rfl) (fun _ _ _ h => h) (.inl ⟨by rfl, fun w hw => by dsimp only at hw; go_simp⟩) hHeld ?_
          simp only [Act.put, List.setIfInBounds_toArray, List.set_cons_zero, List.set_cons_succ]
          refine wpAnyH_take (i := 7) (oi := ⟨some 27, _, _, _, _, _⟩) (v := (.bool (false))) rfl (by kernel_rfl) (by kernel_rfl) (by kernel_rfl) (fun _ _ _ h => h) (.inl ⟨by rfl, fun w hw => by dsimp only at hw; go_simp⟩) hHeld ?_
          simp only [Act.put, List.setIfInBounds_toArray, List.set_cons_zero, List.set_cons_succ]
          refine wpAnyH_take (i := 8) (oi := ⟨some 28, _, _, _, _, _⟩) (v := (.pointer (some ⟨x, 4, none⟩))) rfl (by kernel_rfl) (by kernel_rfl) (by kernel_rfl) (fun _ _ _ h => h) (.inl ⟨by rfl, fun w hw => by dsimp only at hw; go_simp⟩) hHeld ?_
          simp only [Act.put, List.setIfInBounds_toArray, List.set_cons_zero, List.set_cons_succ]
          refine wpAnyH_take (i := 9) (oi := ⟨some 29, _, _, _, _, _⟩) (v := (.string (d))) rfl (by kernel_rfl) (by kernel_rfl) (by kernel_rfl) (fun _ _ _ h => h) (.inl ⟨by rfl, fun w hw => by dsimp only at hw; go_simp⟩) hHeld ?_
          simp only [Act.put, List.setIfInBounds_toArray, List.set_cons_zero, List.set_cons_succ]
          refine wpAnyH_take (i := 11) (oi := ⟨some 31, _, _, _, _, _⟩) (v := (.agg #[.int .i64 (l), .int .i64 (h), .int .i64 (c), .string (b), .string (d)])) rfl (by kernel_rfl) (by kernel_rfl) (by kernel_rfl) (fun _ _ _ h => h) (.inl ⟨by rfl, fun w hw => by dsimp only at hw; go_simp⟩) hHeld ?_
          simp only [Act.put, List.setIfInBounds_toArray, List.set_cons_zero, List.set_cons_succ]
          refine wpAnyH_ready (rs := [10]) (by kernel_rfl) (by simp) ?_
          refine AllReadyH.cons (o := ⟨some 30, _, _, _, _, _⟩) rfl (fun K hK => ?_) AllReadyH.nil
          go_simp
          refine (bitsOf_any d (by omega) _).mono ?_
          rintro e V7 ⟨rfl, rfl⟩
          refine hK.out _ _ hHeld (fun hHeld => ?_)
          clear hK K
          refine wpAnyH_ready (rs := [12]) (by kernel_rfl) (by simp) ?_
          refine AllReadyH.cons (o := ⟨some 32, _, _, _, _, _⟩) rfl (fun K hK => ?_) AllReadyH.nil
          go_simp
          refine (Hown.out _).mono ?_
          rintro e V8 ⟨rfl, f8⟩
          have HF8 := Lib.hid (HF5.out.trans f8)
          refine hK.out _ _ ⟨f8.cell hHeld.1 (fun h => h), f8.cell hHeld.2.1 (fun h => h), f8.cell hHeld.2.2.1 (fun h => h), f8.cell hHeld.2.2.2.1 (fun h => h), f8.cell hHeld.2.2.2.2 (fun h => h)⟩ (fun hHeld => ?_)
          clear hK K f8 HF5
          refine wpAnyH_ready (rs := [13]) (by kernel_rfl) (by simp) ?_
          refine AllReadyH.cons (o := ⟨some 33, _, _, _, _, _⟩) rfl (fun K hK => ?_) AllReadyH.nil
          go_simp
          refine ((among_any (bitsI d.data.toList) (O) _)).mono ?_
          rintro e V9 ⟨rfl, rfl⟩
          rw [HD.out]
          refine hK.out _ _ hHeld (fun hHeld => ?_)
          clear hK K
          refine wpAnyH_take (i := 14) (oi := ⟨some 34, _, _, _, _, _⟩) (v := (.bool (false))) rfl (by kernel_rfl) (by kernel_rfl) (by kernel_rfl) (fun _ _ _ h => h) (.inl ⟨by rfl, fun w hw => by dsimp only at hw; go_simp⟩) hHeld ?_
          simp only [Act.put, List.setIfInBounds_toArray, List.set_cons_zero, List.set_cons_succ]
          refine wpAnyH_take (i := 15) (oi := ⟨some 35, _, _, _, _, _⟩) (v := (.bool (false))) rfl (by kernel_rfl) (by kernel_rfl) (by kernel_rfl) (fun _ _ _ h => h) (.inl ⟨by rfl, fun w hw => by dsimp only at hw; go_simp⟩) hHeld ?_
          simp only [Act.put, List.setIfInBounds_toArray, List.set_cons_zero, List.set_cons_succ]
          refine wpAnyH_done (by kernel_rfl) ?_ _
          obtain ⟨a0, a1, a2, a3, a4⟩ := hHeld
          clear HB HD
          go_wp2_with fail
          refine (Hown.out _).mono ?_
          rintro e V8 ⟨rfl, f8⟩
          have a0 := f8.cell a0 (fun h => h)
          have a1 := f8.cell a1 (fun h => h)
          have a2 := f8.cell a2 (fun h => h)
          have a3 := f8.cell a3 (fun h => h)
          have a4 := f8.cell a4 (fun h => h)
          have HG := Lib.hid (HF8.out.trans f8)
          clear f8 HF8 Hown Hlow Hhigh Hemp
          obtain ⟨⟨hL0, hLb, hLd⟩, hH2⟩ := (⟨HT.out.low, HT.out.high⟩ : _ ∧ _)
          by_cases hO : O = 0
          · have hR := HT.out.r4 (by have := HHL.out; omega) Hcb.out Hcd.out hO
            subst hO
            go_wp2_with fail
            go_ret
            exact ⟨ret_bool (by first | rfl | exact hR.symm), HG.out⟩
          · have hO2 : (O == 0) = false := by rw [beq_eq_false_iff_ne]; exact hO
            by_cases hap : (b.size : Int) + d.size ≤ H
            · have hR := HT.out.r5 (by have := HHL.out; omega) Hcb.out Hcd.out hO hap
              go_wp2_with fail
              go_ret
              exact ⟨ret_bool (by first | rfl | exact hR.symm), HG.out⟩
            · have H6 := Lib.hid fun n => HT.out.r6 n (by have := HHL.out; omega) Hcb.out Hcd.out hO
              have H7 := Lib.hid (HT.out.r7 (by have := HHL.out; omega) Hcb.out Hcd.out hO hap)
              clear HT Hcb Hcd
              go_wp2_with fail
              clear a0 a1 a2 hO hO2
              obtain ⟨k0, hk0⟩ : ∃ k0 : Nat, L = (k0 : Int) := ⟨L.toNat, by omega⟩
              subst hk0
              go_loopw [6] (fun s wr => ∃ k : Nat, s = .int .i64 k ∧ k0 ≤ k ∧ (k : Int) ≤ H + 1 ∧ Hid (∀ n : Nat, k0 ≤ n → n < k → (b.data.toList.drop (n - d.size) == d.data.toList.take (b.size + d.size - n)) = false) ∧ Frm (fun _ => False) V8 wr) (fun s _ => 300 - (intOf s).toNat)
              case atStart => exact ⟨k0, rfl, Nat.le_refl _, by omega, Lib.hid fun n h1 h2 => by omega, Frm.refl _ _⟩
              case round =>
                obtain ⟨k, rfl, hk1, hk2, hno, hf⟩ := hrel
                have a3 := hf.cell a3 (fun h => h)
                have a4 := hf.cell a4 (fun h => h)
                by_cases hkH : (k : Int) ≤ H
                · have hov : IntKind.i64.wrap ((b.size : Int) + d.size - k) = (b.size : Int) + d.size - k := IntWalk.i64_in _ (by omega)
                  have hst : IntKind.i64.wrap ((b.size : Int) - ((b.size : Int) + d.size - k)) = (b.size : Int) - ((b.size : Int) + d.size - k) := IntWalk.i64_in _ (by omega)
                  have hs1 := fun W : World => run_slice_string_l (P := Tryz.prog) (w := W) (t := 9) (s := b) Tryz.underlying9 .i64 ((b.size : Int) - ((b.size : Int) + d.size - k)) (by omega) (by omega)
                  have hs2 := fun W : World => run_slice_string_h (P := Tryz.prog) (w := W) (t := 9) (s := d) Tryz.underlying9 .i64 ((b.size : Int) + d.size - k) (by omega) (by omega)
                  rw [show ((b.size : Int) - ((b.size : Int) + d.size - k)).toNat = k - d.size by omega] at hs1
                  rw [show ((b.size : Int) + d.size - k).toNat = b.size + d.size - k by omega] at hs2
                  have hlap : ((b.extract (k - d.size) b.size).toList == (d.extract 0 (b.size + d.size - k)).toList) = (b.data.toList.drop (k - d.size) == d.data.toList.take (b.size + d.size - k)) := by
                    rw [toList_data, toList_data, ext_toList, ext_toList, List.drop_zero, ← size_list b, List.take_length, size_list b]
                  have hh6 := H6.out k (by omega) hkH
                  have Hno := hno.out
                  generalize hlp : (b.data.toList.drop (k - d.size) == d.data.toList.take (b.size + d.size - k)) = P at hlap hh6
                  cases P
                  · have Hn2 : Hid (∀ n : Nat, k0 ≤ n → n < k + 1 → (b.data.toList.drop (n - d.size) == d.data.toList.take (b.size + d.size - n)) = false) := Lib.hid fun n h1 h2 => by
                      by_cases e : n = k
                      · rw [e]; exact hlp
                      · exact Hno n h1 (by omega)
                    have Hf := Lib.hid hf
                    clear hlp hh6 Hno hno hf
                    go_upto_region 15 with fail
                    go_quiet (fail)
                    go_wp2_with fail
                    go_roundw
                    case rel => exact ⟨k + 1, by go_num, by omega, by omega, Hn2, Hf.out.drewN nq⟩
                    case measure => simp [intOf]; omega
                  · have hR := hh6 rfl
                    have HR := Lib.hid hR
                    have Hf := Lib.hid hf
                    clear hlp hh6 Hno hno hf hR
                    go_upto_region 15 with fail
                    go_quiet (fail)
                    go_wp2_with fail
                    go_ret
                    exact ⟨ret_bool HR.out.symm, HG.out.trans (Hf.out.drewN nq)⟩
                · have hR := H7.out fun n h1 h2 => hno.out n (by omega) (by omega)
                  have HR := Lib.hid hR
                  clear hR hno
                  go_wp2_with fail
                  go_ret
                  exact ⟨ret_bool HR.out.symm, HG.out.trans hf⟩
end Go.Proofs.YtgnjakaamgeibaaGreatDoor
namespace Go.Proofs.YtgnjakaamgeibaaGreatDoor
open Go.RowKit Go.Shelf
attribute [local go_sem] Oper.semAt_some
theorem pre_any (s p : ByteArray) (w : World) : Calls Tryz.prog 33 #[.string s, .string p] w fun e w' => e = .returned (.bool (p.data.toList.isPrefixOf s.data.toList)) ∧ w = w' :=
  (Tryz.strings_HasPrefix s p w).mono fun _ _ h => ⟨h.1, h.2.symm⟩
theorem suf_any (s p : ByteArray) (hs : s.size ≤ 9223372036854775807) (w : World) : Calls Tryz.prog 34 #[.string s, .string p] w fun e w' => e = .returned (.bool (p.data.toList.isSuffixOf s.data.toList)) ∧ w = w' :=
  (Tryz.strings_HasSuffix s p w hs).mono fun _ _ h => ⟨h.1, h.2.symm⟩
/-- A block for a result, of which the caller knows nothing. -/
structure Res (w0 w : World) (g : Nat) : Prop where
  frm : Frm (fun _ => False) w0 w
  new : w0.heap.size ≤ g
  row : ∃ u0 u1 u2 u3 u4, w.heap[g]? = some (.cells #[u0, u1, u2, u3, u4] 24 (0, 0))
theorem Res.still {w0 w w' : World} {g : Nat} (h : Res w0 w g) (f : Frm (fun _ => False) w w') : Res w0 w' g := by
  obtain ⟨u0, u1, u2, u3, u4, hr⟩ := h.row
  exact ⟨h.frm.trans f, h.new, u0, u1, u2, u3, u4, f.heap hr (fun h => h)⟩
theorem Res.start (w0 w : World) (f : Frm (fun _ => False) w0 w) : Res w0 (w.alloc (.cells #[.int .i64 0, .int .i64 0, .int .i64 0, .string ⟨#[]⟩, .string ⟨#[]⟩] 24)) w.heap.size :=
  ⟨f.alloc _, f.size, _, _, _, _, _, heap_alloc_new w _⟩
theorem Res.facts {w0 w : World} {g : Nat} (h : Res w0 w g) : ∃ u0 u1 u2 u3 u4, (w.cell? ⟨g, 0, none⟩ = some u0 ∧ w.cell? ⟨g, 1, none⟩ = some u1 ∧ w.cell? ⟨g, 2, none⟩ = some u2 ∧ w.cell? ⟨g, 3, none⟩ = some u3 ∧ w.cell? ⟨g, 4, none⟩ = some u4) ∧ (w.frozen? ⟨g, 0, none⟩ = false ∧ w.frozen? ⟨g, 1, none⟩ = false ∧ w.frozen? ⟨g, 2, none⟩ = false ∧ w.frozen? ⟨g, 3, none⟩ = false ∧ w.frozen? ⟨g, 4, none⟩ = false) := by
  obtain ⟨u0, u1, u2, u3, u4, hr⟩ := h.row
  exact ⟨u0, u1, u2, u3, u4, ⟨by rw [cell_of_row _ _ _ _ _ _ hr]; rfl, by rw [cell_of_row _ _ _ _ _ _ hr]; rfl, by rw [cell_of_row _ _ _ _ _ _ hr]; rfl, by rw [cell_of_row _ _ _ _ _ _ hr]; rfl, by rw [cell_of_row _ _ _ _ _ _ hr]; rfl⟩, frozen_of_row _ _ _ _ _ hr, frozen_of_row _ _ _ _ _ hr, frozen_of_row _ _ _ _ _ hr, frozen_of_row _ _ _ _ _ hr, frozen_of_row _ _ _ _ _ hr⟩
theorem Res.set {w0 w : World} {g : Nat} (h : Res w0 w g) (v0 v1 v2 v3 v4 : Value) : (((((w.setCell ⟨g, 0, none⟩ v0).setCell ⟨g, 1, none⟩ v1).setCell ⟨g, 2, none⟩ v2).setCell ⟨g, 3, none⟩ v3).setCell ⟨g, 4, none⟩ v4).heap[g]? = some (.cells #[v0, v1, v2, v3, v4] 24 (0, 0)) ∧
    Frm (fun _ => False) w0 (((((w.setCell ⟨g, 0, none⟩ v0).setCell ⟨g, 1, none⟩ v1).setCell ⟨g, 2, none⟩ v2).setCell ⟨g, 3, none⟩ v3).setCell ⟨g, 4, none⟩ v4) := by
  obtain ⟨u0, u1, u2, u3, u4, hr⟩ := h.row
  refine ⟨heap_set (heap_set (heap_set (heap_set (heap_set hr v0) v1) v2) v3) v4, ?_⟩
  exact ((((h.frm.setCell (.inr h.new) v0).setCell (.inr h.new) v1).setCell (.inr h.new) v2).setCell (.inr h.new) v3).setCell (.inr h.new) v4
/-- A shape is stored into the result's block, and handed back. -/
theorem Res.ret {fn : Func} {p : Tmp} (hfn : fn.results = #[.cell p 24]) {R : Ending → World → Prop} {a : Act} {w0 w : World} {g : Nat} (h : Res w0 w g) {v0 v1 v2 v3 v4 : Value} (ha : a.defers = []) (hp : a.tmps.getD p undef = .pointer (some ⟨g, 0, none⟩)) (hR : ∀ W, Frm (fun _ => False) w0 W → R (.returned (.agg #[v0, v1, v2, v3, v4])) W) :
    bodyPost Tryz.prog fn R .ret a (((((w.setCell ⟨g, 0, none⟩ v0).setCell ⟨g, 1, none⟩ v1).setCell ⟨g, 2, none⟩ v2).setCell ⟨g, 3, none⟩ v3).setCell ⟨g, 4, none⟩ v4) := by
  obtain ⟨h1, h2⟩ := h.set v0 v1 v2 v3 v4
  exact bodyPost_ret (results_cell_row hfn _ _ g 24 _ (0, 0) _ hp h1 Tryz.underlying24 rfl row_info24) ha (hR _ h2)
theorem of_any (s : ByteArray) (hs : s.size ≤ 9223372036854775807) (w : World) : Calls Tryz.prog 13 #[.string s] w fun e w' => e = .returned (shV (ofS s)) ∧ Frm (fun _ => False) w w' := by
  unfold ofS
  cases ht : textB s.data.toList
  · go_enter Tryz.func13, Tryz.ntmps13
    go_wp2_with fail
    refine (isText2_any s hs _).mono ?_
    rintro e w1 ⟨rfl, rfl⟩
    go_wp2_with fail
    have hr := Res.start w w (Frm.refl _ _)
    refine (empty_any _).mono ?_
    rintro e w2 ⟨rfl, f⟩
    have hr2 := hr.still f
    obtain ⟨u0, u1, u2, u3, u4, ⟨c0, c1, c2, c3, c4⟩, z0, z1, z2, z3, z4⟩ := hr2.facts
    have Hr := Lib.hid hr2
    clear hr hr2 f
    unfold shV none'
    go_wp2_with fail
    exact Hr.out.ret Tryz.results13 rfl rfl fun W f => ⟨rfl, f⟩
  · go_enter Tryz.func13, Tryz.ntmps13
    go_wp2_with fail
    refine (isText2_any s hs _).mono ?_
    rintro e w1 ⟨rfl, rfl⟩
    go_wp2_with fail
    refine (bitsOf_any s hs _).mono ?_
    rintro e w1 ⟨rfl, rfl⟩
    go_wp2_with fail
    exact ret_sh (s := ⟨s.size, s.size, bitsI s.data.toList, s, s⟩) Tryz.results13 _ rfl rfl (heap_alloc_new w _) ⟨rfl, (Frm.refl _ _).alloc _⟩
theorem rof_any (s : ByteArray) (hs : s.size ≤ 9223372036854775807) (w : World) : Calls Tryz.prog 15 #[.string s] w fun e w' => e = .returned (shV (ofS s)) ∧ Frm (fun _ => False) w w' := by
  unfold ofS
  cases ht : textB s.data.toList
  · go_enter Tryz.func15, Tryz.ntmps15
    go_wp2_with fail
    refine (risText_any s hs _).mono ?_
    rintro e w1 ⟨rfl, rfl⟩
    go_wp2_with fail
    have hr := Res.start w w (Frm.refl _ _)
    refine (rnone_any _).mono ?_
    rintro e w2 ⟨rfl, f⟩
    have hr2 := hr.still f
    obtain ⟨u0, u1, u2, u3, u4, ⟨c0, c1, c2, c3, c4⟩, z0, z1, z2, z3, z4⟩ := hr2.facts
    have Hr := Lib.hid hr2
    clear hr hr2 f
    unfold shV none'
    go_wp2_with fail
    exact Hr.out.ret Tryz.results15 rfl rfl fun W f => ⟨rfl, f⟩
  · go_enter Tryz.func15, Tryz.ntmps15
    go_wp2_with fail
    refine (risText_any s hs _).mono ?_
    rintro e w1 ⟨rfl, rfl⟩
    go_wp2_with fail
    refine (rbits_any s hs _).mono ?_
    rintro e w1 ⟨rfl, rfl⟩
    go_wp2_with fail
    exact ret_sh (s := ⟨s.size, s.size, bitsI s.data.toList, s, s⟩) Tryz.results15 _ rfl rfl (heap_alloc_new w _) ⟨rfl, (Frm.refl _ _).alloc _⟩
/-- What the tests of Contains say. -/
structure ConT (l h c : Int) (b d t : ByteArray) (R : Bool) : Prop where
  r1 : textB t.data.toList = false → R = false
  r2 : (t.size : Int) < l → R = false
  r3 : h < (t.size : Int) → R = false
  r4 : clsIn t.data.toList c = false → R = false
  r5 : textB t.data.toList = true → ¬ (t.size : Int) < l → ¬ h < (t.size : Int) → clsIn t.data.toList c = true → R = (b.data.toList.isPrefixOf t.data.toList && d.data.toList.isSuffixOf t.data.toList)
theorem conT (a : Shp) (t : ByteArray) : ConT a.lo a.hi a.cl a.bg a.en t (inS a t.data.toList) := by
  have hin : inS a t.data.toList = (textB t.data.toList && decide (a.lo ≤ (t.size : Int)) && decide ((t.size : Int) ≤ a.hi) && clsIn t.data.toList a.cl && a.bg.data.toList.isPrefixOf t.data.toList && a.en.data.toList.isSuffixOf t.data.toList) := by
    unfold inS
    rw [size_list]
  refine ⟨fun h => ?_, fun h => ?_, fun h => ?_, fun h => ?_, fun h1 h2 h3 h4 => ?_⟩
  · rw [hin, h]; rfl
  · rw [hin, decide_eq_false (show ¬ a.lo ≤ (t.size : Int) by omega)]; simp
  · rw [hin, decide_eq_false (show ¬ (t.size : Int) ≤ a.hi by omega)]; simp
  · rw [hin, h]; simp
  · rw [hin, h1, h4, decide_eq_true (show a.lo ≤ (t.size : Int) by omega), decide_eq_true (show (t.size : Int) ≤ a.hi by omega)]; simp
set_option maxRecDepth 100000 in
set_option maxHeartbeats 4000000 in
theorem con_any (a : Shp) (t : ByteArray) (ht : t.size ≤ 9223372036854775807) (w : World) : Calls Tryz.prog 7 #[shV a, .string t] w fun e w' => e = .returned (.bool (inS a t.data.toList)) ∧ Frm (fun _ => False) w w' := by
  have hT := conT a t
  generalize inS a t.data.toList = R at *
  obtain ⟨l, h, c, b, d⟩ := a
  unfold shV
  simp only at hT ⊢
  have HT := Lib.hid hT
  clear hT
  have hab := among_bits t.data.toList c
  have hpre := pre_any t b
  have hsuf := suf_any t d ht
  have Hpre := Lib.hid hpre
  have Hsuf := Lib.hid hsuf
  clear hpre hsuf
  go_enter Tryz.func7, Tryz.ntmps7
  go_upto_region 1 with fail
  obtain ⟨W1, x, hW, hx, hf, a0, a1, a2, a3, a4⟩ := one_sh w l h c b d
  rw [hW, hx]
  have HF := Lib.hid hf.drew
  clear hW hx hf
  cases hx : textB t.data.toList
  · have HR := Lib.hid (HT.out.r1 hx)
    clear hab Hpre Hsuf HT
    refine wp_region_held_drew (S := fun w' => w'.cell? ⟨x, 0, none⟩ = some (.int .i64 (l)) ∧ w'.cell? ⟨x, 1, none⟩ = some (.int .i64 (h)) ∧ w'.cell? ⟨x, 2, none⟩ = some (.int .i64 (c)) ∧ w'.cell? ⟨x, 3, none⟩ = some (.string (b)) ∧ w'.cell? ⟨x, 4, none⟩ = some (.string (d))) (by kernel_rfl) ⟨a0, a1, a2, a3, a4⟩ (fun hHeld => ?_)
    refine wpAnyH_take (i := 0) (oi := ⟨some 5, _, _, _, _, _⟩) (v := (.string (t))) rfl (by kernel_rfl) (by kernel_rfl) (by kernel_rfl) (fun _ _ _ h => h) (.inl ⟨by rfl, fun w hw => by dsimp only at hw; go_simp⟩) hHeld ?_
    simp only [Act.put, List.setIfInBounds_toArray, List.set_cons_zero, List.set_cons_succ]
    refine wpAnyH_ready (rs := [1]) (by kernel_rfl) (by simp) ?_
    refine AllReadyH.cons (o := ⟨some 6, _, _, _, _, _⟩) rfl (fun K hK => ?_) AllReadyH.nil
    go_simp
    refine (isText2_any t ht _).mono ?_
    rintro e V1 ⟨rfl, rfl⟩
    rw [hx]
    refine hK.out _ _ hHeld (fun hHeld => ?_)
    clear hK K
    refine wpAnyH_take (i := 2) (oi := ⟨some 7, _, _, _, _, _⟩) (v := (.bool (true))) rfl (by kernel_rfl) (by kernel_rfl) (by kernel_rfl) (fun _ _ _ h => h) (.inl ⟨by rfl, fun w hw => by dsimp only at hw; go_simp⟩) hHeld ?_
    simp only [Act.put, List.setIfInBounds_toArray, List.set_cons_zero, List.set_cons_succ]
    refine wpAnyH_take (i := 3) (oi := ⟨some 8, _, _, _, _, _⟩) (v := (.bool (true))) rfl (by kernel_rfl) (by kernel_rfl) (by kernel_rfl) (fun _ _ _ h => h) (.inl ⟨by rfl, fun w hw => by dsimp only at hw; go_simp⟩) hHeld ?_
    simp only [Act.put, List.setIfInBounds_toArray, List.set_cons_zero, List.set_cons_succ]
    refine wpAnyH_take (i := 4) (oi := ⟨some 9, _, _, _, _, _⟩) rfl (by kernel_rfl) (by kernel_rfl) (by kernel_rfl) (fun _ _ _ h => h) (.inr ⟨by rfl, rfl⟩) hHeld ?_
    simp only [Act.put, List.setIfInBounds_toArray, List.set_cons_zero, List.set_cons_succ]
    refine wpAnyH_take (i := 5) (oi := ⟨some 10, _, _, _, _, _⟩) rfl (by kernel_rfl) (by kernel_rfl) (by kernel_rfl) (fun _ _ _ h => h) (.inr ⟨by rfl, rfl⟩) hHeld ?_
    simp only [Act.put, List.setIfInBounds_toArray, List.set_cons_zero, List.set_cons_succ]
    refine wpAnyH_take (i := 6) (oi := ⟨some 11, _, _, _, _, _⟩) rfl (by kernel_rfl) (by kernel_rfl) (by kernel_rfl) (fun _ _ _ h => h) (.inr ⟨by rfl, rfl⟩) hHeld ?_
    simp only [Act.put, List.setIfInBounds_toArray, List.set_cons_zero, List.set_cons_succ]
    refine wpAnyH_take (i := 7) (oi := ⟨some 12, _, _, _, _, _⟩) rfl (by kernel_rfl) (by kernel_rfl) (by kernel_rfl) (fun _ _ _ h => h) (.inr ⟨by rfl, rfl⟩) hHeld ?_
    simp only [Act.put, List.setIfInBounds_toArray, List.set_cons_zero, List.set_cons_succ]
    refine wpAnyH_take (i := 8) (oi := ⟨some 13, _, _, _, _, _⟩) rfl (by kernel_rfl) (by kernel_rfl) (by kernel_rfl) (fun _ _ _ h => h) (.inr ⟨by rfl, rfl⟩) hHeld ?_
    simp only [Act.put, List.setIfInBounds_toArray, List.set_cons_zero, List.set_cons_succ]
    refine wpAnyH_take (i := 9) (oi := ⟨some 14, _, _, _, _, _⟩) (v := (.bool (true))) rfl (by kernel_rfl) (by kernel_rfl) (by kernel_rfl) (fun _ _ _ h => h) (.inl ⟨by rfl, fun w hw => by dsimp only at hw; go_simp⟩) hHeld ?_
    simp only [Act.put, List.setIfInBounds_toArray, List.set_cons_zero, List.set_cons_succ]
    refine wpAnyH_take (i := 10) (oi := ⟨some 15, _, _, _, _, _⟩) (v := (.bool (true))) rfl (by kernel_rfl) (by kernel_rfl) (by kernel_rfl) (fun _ _ _ h => h) (.inl ⟨by rfl, fun w hw => by dsimp only at hw; go_simp⟩) hHeld ?_
    simp only [Act.put, List.setIfInBounds_toArray, List.set_cons_zero, List.set_cons_succ]
    refine wpAnyH_take (i := 11) (oi := ⟨some 16, _, _, _, _, _⟩) rfl (by kernel_rfl) (by kernel_rfl) (by kernel_rfl) (fun _ _ _ h => h) (.inr ⟨by rfl, rfl⟩) hHeld ?_
    simp only [Act.put, List.setIfInBounds_toArray, List.set_cons_zero, List.set_cons_succ]
    refine wpAnyH_take (i := 12) (oi := ⟨some 17, _, _, _, _, _⟩) rfl (by kernel_rfl) (by kernel_rfl) (by kernel_rfl) (fun _ _ _ h => h) (.inr ⟨by rfl, rfl⟩) hHeld ?_
    simp only [Act.put, List.setIfInBounds_toArray, List.set_cons_zero, List.set_cons_succ]
    refine wpAnyH_take (i := 13) (oi := ⟨some 18, _, _, _, _, _⟩) rfl (by kernel_rfl) (by kernel_rfl) (by kernel_rfl) (fun _ _ _ h => h) (.inr ⟨by rfl, rfl⟩) hHeld ?_
    simp only [Act.put, List.setIfInBounds_toArray, List.set_cons_zero, List.set_cons_succ]
    refine wpAnyH_take (i := 14) (oi := ⟨some 19, _, _, _, _, _⟩) rfl (by kernel_rfl) (by kernel_rfl) (by kernel_rfl) (fun _ _ _ h => h) (.inr ⟨by rfl, rfl⟩) hHeld ?_
    simp only [Act.put, List.setIfInBounds_toArray, List.set_cons_zero, List.set_cons_succ]
    refine wpAnyH_take (i := 15) (oi := ⟨some 20, _, _, _, _, _⟩) rfl (by kernel_rfl) (by kernel_rfl) (by kernel_rfl) (fun _ _ _ h => h) (.inr ⟨by rfl, rfl⟩) hHeld ?_
    simp only [Act.put, List.setIfInBounds_toArray, List.set_cons_zero, List.set_cons_succ]
    refine wpAnyH_take (i := 16) (oi := ⟨some 21, _, _, _, _, _⟩) (v := (.bool (true))) rfl (by kernel_rfl) (by kernel_rfl) (by kernel_rfl) (fun _ _ _ h => h) (.inl ⟨by rfl, fun w hw => by dsimp only at hw; go_simp⟩) hHeld ?_
    simp only [Act.put, List.setIfInBounds_toArray, List.set_cons_zero, List.set_cons_succ]
    refine wpAnyH_take (i := 17) (oi := ⟨some 22, _, _, _, _, _⟩) (v := (.bool (true))) rfl (by kernel_rfl) (by kernel_rfl) (by kernel_rfl) (fun _ _ _ h => h) (.inl ⟨by rfl, fun w hw => by dsimp only at hw; go_simp⟩) hHeld ?_
    simp only [Act.put, List.setIfInBounds_toArray, List.set_cons_zero, List.set_cons_succ]
    refine wpAnyH_take (i := 18) (oi := ⟨some 23, _, _, _, _, _⟩) rfl (by kernel_rfl) (by kernel_rfl) (by kernel_rfl) (fun _ _ _ h => h) (.inr ⟨by rfl, rfl⟩) hHeld ?_
    simp only [Act.put, List.setIfInBounds_toArray, List.set_cons_zero, List.set_cons_succ]
    refine wpAnyH_take (i := 19) (oi := ⟨some 24, _, _, _, _, _⟩) rfl (by kernel_rfl) (by kernel_rfl) (by kernel_rfl) (fun _ _ _ h => h) (.inr ⟨by rfl, rfl⟩) hHeld ?_
    simp only [Act.put, List.setIfInBounds_toArray, List.set_cons_zero, List.set_cons_succ]
    refine wpAnyH_take (i := 20) (oi := ⟨some 25, _, _, _, _, _⟩) rfl (by kernel_rfl) (by kernel_rfl) (by kernel_rfl) (fun _ _ _ h => h) (.inr ⟨by rfl, rfl⟩) hHeld ?_
    simp only [Act.put, List.setIfInBounds_toArray, List.set_cons_zero, List.set_cons_succ]
    refine wpAnyH_take (i := 21) (oi := ⟨some 26, _, _, _, _, _⟩) rfl (by kernel_rfl) (by kernel_rfl) (by kernel_rfl) (fun _ _ _ h => h) (.inr ⟨by rfl, rfl⟩) hHeld ?_
    simp only [Act.put, List.setIfInBounds_toArray, List.set_cons_zero, List.set_cons_succ]
    refine wpAnyH_take (i := 22) (oi := ⟨some 27, _, _, _, _, _⟩) rfl (by kernel_rfl) (by kernel_rfl) (by kernel_rfl) (fun _ _ _ h => h) (.inr ⟨by rfl, rfl⟩) hHeld ?_
    simp only [Act.put, List.setIfInBounds_toArray, List.set_cons_zero, List.set_cons_succ]
    refine wpAnyH_take (i := 23) (oi := ⟨some 28, _, _, _, _, _⟩) rfl (by kernel_rfl) (by kernel_rfl) (by kernel_rfl) (fun _ _ _ h => h) (.inr ⟨by rfl, rfl⟩) hHeld ?_
    simp only [Act.put, List.setIfInBounds_toArray, List.set_cons_zero, List.set_cons_succ]
    refine wpAnyH_take (i := 24) (oi := ⟨some 29, _, _, _, _, _⟩) (v := (.bool (true))) rfl (by kernel_rfl) (by kernel_rfl) (by kernel_rfl) (fun _ _ _ h => h) (.inl ⟨by rfl, fun w hw => by dsimp only at hw; go_simp⟩) hHeld ?_
    simp only [Act.put, List.setIfInBounds_toArray, List.set_cons_zero, List.set_cons_succ]
    refine wpAnyH_done (by kernel_rfl) ?_ _
    go_wp2_with fail
    go_ret
    exact ⟨ret_bool (by exact HR.out.symm), HF.out⟩
  · by_cases h1 : (t.size : Int) < l
    · have HR := Lib.hid (HT.out.r2 h1)
      clear hab Hpre Hsuf HT
      refine wp_region_held_drew (S := fun w' => w'.cell? ⟨x, 0, none⟩ = some (.int .i64 (l)) ∧ w'.cell? ⟨x, 1, none⟩ = some (.int .i64 (h)) ∧ w'.cell? ⟨x, 2, none⟩ = some (.int .i64 (c)) ∧ w'.cell? ⟨x, 3, none⟩ = some (.string (b)) ∧ w'.cell? ⟨x, 4, none⟩ = some (.string (d))) (by kernel_rfl) ⟨a0, a1, a2, a3, a4⟩ (fun hHeld => ?_)
      refine wpAnyH_take (i := 0) (oi := ⟨some 5, _, _, _, _, _⟩) (v := (.string (t))) rfl (by kernel_rfl) (by kernel_rfl) (by kernel_rfl) (fun _ _ _ h => h) (.inl ⟨by rfl, fun w hw => by dsimp only at hw; go_simp⟩) hHeld ?_
      simp only [Act.put, List.setIfInBounds_toArray, List.set_cons_zero, List.set_cons_succ]
      refine wpAnyH_ready (rs := [1]) (by kernel_rfl) (by simp) ?_
      refine AllReadyH.cons (o := ⟨some 6, _, _, _, _, _⟩) rfl (fun K hK => ?_) AllReadyH.nil
      go_simp
      refine (isText2_any t ht _).mono ?_
      rintro e V1 ⟨rfl, rfl⟩
      rw [hx]
      refine hK.out _ _ hHeld (fun hHeld => ?_)
      clear hK K
      refine wpAnyH_take (i := 2) (oi := ⟨some 7, _, _, _, _, _⟩) (v := (.bool (false))) rfl (by kernel_rfl) (by kernel_rfl) (by kernel_rfl) (fun _ _ _ h => h) (.inl ⟨by rfl, fun w hw => by dsimp only at hw; go_simp⟩) hHeld ?_
      simp only [Act.put, List.setIfInBounds_toArray, List.set_cons_zero, List.set_cons_succ]
      refine wpAnyH_take (i := 3) (oi := ⟨some 8, _, _, _, _, _⟩) (v := (.bool (false))) rfl (by kernel_rfl) (by kernel_rfl) (by kernel_rfl) (fun _ _ _ h => h) (.inl ⟨by rfl, fun w hw => by dsimp only at hw; go_simp⟩) hHeld ?_
      simp only [Act.put, List.setIfInBounds_toArray, List.set_cons_zero, List.set_cons_succ]
      refine wpAnyH_take (i := 4) (oi := ⟨some 9, _, _, _, _, _⟩) (v := (.string (t))) rfl (by kernel_rfl) (by kernel_rfl) (by kernel_rfl) (fun _ _ _ h => h) (.inl ⟨by rfl, fun w hw => by dsimp only at hw; go_simp⟩) hHeld ?_
      simp only [Act.put, List.setIfInBounds_toArray, List.set_cons_zero, List.set_cons_succ]
      refine wpAnyH_take (i := 5) (oi := ⟨some 10, _, _, _, _, _⟩) (v := (.int .i64 (((t).size : Int)))) rfl (by kernel_rfl) (by kernel_rfl) (by kernel_rfl) (fun _ _ _ h => h) (.inl ⟨by rfl, fun w hw => by dsimp only at hw; go_simp⟩) hHeld ?_
      simp only [Act.put, List.setIfInBounds_toArray, List.set_cons_zero, List.set_cons_succ]
      refine wpAnyH_take (i := 6) (oi := ⟨some 11, _, _, _, _, _⟩) (v := (.pointer (some ⟨x, 0, none⟩))) rfl (by kernel_rfl) (by kernel_rfl) (by kernel_rfl) (fun _ _ _ h => h) (.inl ⟨by rfl, fun w hw => by dsimp only at hw; go_simp⟩) hHeld ?_
      simp only [Act.put, List.setIfInBounds_toArray, List.set_cons_zero, List.set_cons_succ]
      refine wpAnyH_take (i := 7) (oi := ⟨some 12, _, _, _, _, _⟩) (v := (.int .i64 (l))) rfl (by kernel_rfl) (by kernel_rfl) (by kernel_rfl) (fun _ _ _ h => h) (.inl ⟨by rfl, fun w hw => by dsimp only at hw; go_simp⟩) hHeld ?_
      simp only [Act.put, List.setIfInBounds_toArray, List.set_cons_zero, List.set_cons_succ]
      refine wpAnyH_take (i := 8) (oi := ⟨some 13, _, _, _, _, _⟩) (v := (.bool (true))) rfl (by kernel_rfl) (by kernel_rfl) (by kernel_rfl) (fun _ _ _ h => h) (.inl ⟨by rfl, fun w hw => by dsimp only at hw; go_simp⟩) hHeld ?_
      simp only [Act.put, List.setIfInBounds_toArray, List.set_cons_zero, List.set_cons_succ]
      refine wpAnyH_take (i := 9) (oi := ⟨some 14, _, _, _, _, _⟩) (v := (.bool (true))) rfl (by kernel_rfl) (by kernel_rfl) (by kernel_rfl) (fun _ _ _ h => h) (.inl ⟨by rfl, fun w hw => by dsimp only at hw; go_simp⟩) hHeld ?_
      simp only [Act.put, List.setIfInBounds_toArray, List.set_cons_zero, List.set_cons_succ]
      refine wpAnyH_take (i := 10) (oi := ⟨some 15, _, _, _, _, _⟩) (v := (.bool (true))) rfl (by kernel_rfl) (by kernel_rfl) (by kernel_rfl) (fun _ _ _ h => h) (.inl ⟨by rfl, fun w hw => by dsimp only at hw; go_simp⟩) hHeld ?_
      simp only [Act.put, List.setIfInBounds_toArray, List.set_cons_zero, List.set_cons_succ]
      refine wpAnyH_take (i := 11) (oi := ⟨some 16, _, _, _, _, _⟩) rfl (by kernel_rfl) (by kernel_rfl) (by kernel_rfl) (fun _ _ _ h => h) (.inr ⟨by rfl, rfl⟩) hHeld ?_
      simp only [Act.put, List.setIfInBounds_toArray, List.set_cons_zero, List.set_cons_succ]
      refine wpAnyH_take (i := 12) (oi := ⟨some 17, _, _, _, _, _⟩) rfl (by kernel_rfl) (by kernel_rfl) (by kernel_rfl) (fun _ _ _ h => h) (.inr ⟨by rfl, rfl⟩) hHeld ?_
      simp only [Act.put, List.setIfInBounds_toArray, List.set_cons_zero, List.set_cons_succ]
      refine wpAnyH_take (i := 13) (oi := ⟨some 18, _, _, _, _, _⟩) rfl (by kernel_rfl) (by kernel_rfl) (by kernel_rfl) (fun _ _ _ h => h) (.inr ⟨by rfl, rfl⟩) hHeld ?_
      simp only [Act.put, List.setIfInBounds_toArray, List.set_cons_zero, List.set_cons_succ]
      refine wpAnyH_take (i := 14) (oi := ⟨some 19, _, _, _, _, _⟩) rfl (by kernel_rfl) (by kernel_rfl) (by kernel_rfl) (fun _ _ _ h => h) (.inr ⟨by rfl, rfl⟩) hHeld ?_
      simp only [Act.put, List.setIfInBounds_toArray, List.set_cons_zero, List.set_cons_succ]
      refine wpAnyH_take (i := 15) (oi := ⟨some 20, _, _, _, _, _⟩) rfl (by kernel_rfl) (by kernel_rfl) (by kernel_rfl) (fun _ _ _ h => h) (.inr ⟨by rfl, rfl⟩) hHeld ?_
      simp only [Act.put, List.setIfInBounds_toArray, List.set_cons_zero, List.set_cons_succ]
      refine wpAnyH_take (i := 16) (oi := ⟨some 21, _, _, _, _, _⟩) (v := (.bool (true))) rfl (by kernel_rfl) (by kernel_rfl) (by kernel_rfl) (fun _ _ _ h => h) (.inl ⟨by rfl, fun w hw => by dsimp only at hw; go_simp⟩) hHeld ?_
      simp only [Act.put, List.setIfInBounds_toArray, List.set_cons_zero, List.set_cons_succ]
      refine wpAnyH_take (i := 17) (oi := ⟨some 22, _, _, _, _, _⟩) (v := (.bool (true))) rfl (by kernel_rfl) (by kernel_rfl) (by kernel_rfl) (fun _ _ _ h => h) (.inl ⟨by rfl, fun w hw => by dsimp only at hw; go_simp⟩) hHeld ?_
      simp only [Act.put, List.setIfInBounds_toArray, List.set_cons_zero, List.set_cons_succ]
      refine wpAnyH_take (i := 18) (oi := ⟨some 23, _, _, _, _, _⟩) rfl (by kernel_rfl) (by kernel_rfl) (by kernel_rfl) (fun _ _ _ h => h) (.inr ⟨by rfl, rfl⟩) hHeld ?_
      simp only [Act.put, List.setIfInBounds_toArray, List.set_cons_zero, List.set_cons_succ]
      refine wpAnyH_take (i := 19) (oi := ⟨some 24, _, _, _, _, _⟩) rfl (by kernel_rfl) (by kernel_rfl) (by kernel_rfl) (fun _ _ _ h => h) (.inr ⟨by rfl, rfl⟩) hHeld ?_
      simp only [Act.put, List.setIfInBounds_toArray, List.set_cons_zero, List.set_cons_succ]
      refine wpAnyH_take (i := 20) (oi := ⟨some 25, _, _, _, _, _⟩) rfl (by kernel_rfl) (by kernel_rfl) (by kernel_rfl) (fun _ _ _ h => h) (.inr ⟨by rfl, rfl⟩) hHeld ?_
      simp only [Act.put, List.setIfInBounds_toArray, List.set_cons_zero, List.set_cons_succ]
      refine wpAnyH_take (i := 21) (oi := ⟨some 26, _, _, _, _, _⟩) rfl (by kernel_rfl) (by kernel_rfl) (by kernel_rfl) (fun _ _ _ h => h) (.inr ⟨by rfl, rfl⟩) hHeld ?_
      simp only [Act.put, List.setIfInBounds_toArray, List.set_cons_zero, List.set_cons_succ]
      refine wpAnyH_take (i := 22) (oi := ⟨some 27, _, _, _, _, _⟩) rfl (by kernel_rfl) (by kernel_rfl) (by kernel_rfl) (fun _ _ _ h => h) (.inr ⟨by rfl, rfl⟩) hHeld ?_
      simp only [Act.put, List.setIfInBounds_toArray, List.set_cons_zero, List.set_cons_succ]
      refine wpAnyH_take (i := 23) (oi := ⟨some 28, _, _, _, _, _⟩) rfl (by kernel_rfl) (by kernel_rfl) (by kernel_rfl) (fun _ _ _ h => h) (.inr ⟨by rfl, rfl⟩) hHeld ?_
      simp only [Act.put, List.setIfInBounds_toArray, List.set_cons_zero, List.set_cons_succ]
      refine wpAnyH_take (i := 24) (oi := ⟨some 29, _, _, _, _, _⟩) (v := (.bool (true))) rfl (by kernel_rfl) (by kernel_rfl) (by kernel_rfl) (fun _ _ _ h => h) (.inl ⟨by rfl, fun w hw => by dsimp only at hw; go_simp⟩) hHeld ?_
      simp only [Act.put, List.setIfInBounds_toArray, List.set_cons_zero, List.set_cons_succ]
      refine wpAnyH_done (by kernel_rfl) ?_ _
      go_wp2_with fail
      go_ret
      exact ⟨ret_bool (by exact HR.out.symm), HF.out⟩
    · by_cases h2 : h < (t.size : Int)
      · have HR := Lib.hid (HT.out.r3 h2)
        clear hab Hpre Hsuf HT
        refine wp_region_held_drew (S := fun w' => w'.cell? ⟨x, 0, none⟩ = some (.int .i64 (l)) ∧ w'.cell? ⟨x, 1, none⟩ = some (.int .i64 (h)) ∧ w'.cell? ⟨x, 2, none⟩ = some (.int .i64 (c)) ∧ w'.cell? ⟨x, 3, none⟩ = some (.string (b)) ∧ w'.cell? ⟨x, 4, none⟩ = some (.string (d))) (by kernel_rfl) ⟨a0, a1, a2, a3, a4⟩ (fun hHeld => ?_)
        refine wpAnyH_take (i := 0) (oi := ⟨some 5, _, _, _, _, _⟩) (v := (.string (t))) rfl (by kernel_rfl) (by kernel_rfl) (by kernel_rfl) (fun _ _ _ h => h) (.inl ⟨by rfl, fun w hw => by dsimp only at hw; go_simp⟩) hHeld ?_
        simp only [Act.put, List.setIfInBounds_toArray, List.set_cons_zero, List.set_cons_succ]
        refine wpAnyH_ready (rs := [1]) (by kernel_rfl) (by simp) ?_
        refine AllReadyH.cons (o := ⟨some 6, _, _, _, _, _⟩) rfl (fun K hK => ?_) AllReadyH.nil
        go_simp
        refine (isText2_any t ht _).mono ?_
        rintro e V1 ⟨rfl, rfl⟩
        rw [hx]
        refine hK.out _ _ hHeld (fun hHeld => ?_)
        clear hK K
        refine wpAnyH_take (i := 2) (oi := ⟨some 7, _, _, _, _, _⟩) (v := (.bool (false))) rfl (by kernel_rfl) (by kernel_rfl) (by kernel_rfl) (fun _ _ _ h => h) (.inl ⟨by rfl, fun w hw => by dsimp only at hw; go_simp⟩) hHeld ?_
        simp only [Act.put, List.setIfInBounds_toArray, List.set_cons_zero, List.set_cons_succ]
        refine wpAnyH_take (i := 3) (oi := ⟨some 8, _, _, _, _, _⟩) (v := (.bool (false))) rfl (by kernel_rfl) (by kernel_rfl) (by kernel_rfl) (fun _ _ _ h => h) (.inl ⟨by rfl, fun w hw => by dsimp only at hw; go_simp⟩) hHeld ?_
        simp only [Act.put, List.setIfInBounds_toArray, List.set_cons_zero, List.set_cons_succ]
        refine wpAnyH_take (i := 4) (oi := ⟨some 9, _, _, _, _, _⟩) (v := (.string (t))) rfl (by kernel_rfl) (by kernel_rfl) (by kernel_rfl) (fun _ _ _ h => h) (.inl ⟨by rfl, fun w hw => by dsimp only at hw; go_simp⟩) hHeld ?_
        simp only [Act.put, List.setIfInBounds_toArray, List.set_cons_zero, List.set_cons_succ]
        refine wpAnyH_take (i := 5) (oi := ⟨some 10, _, _, _, _, _⟩) (v := (.int .i64 (((t).size : Int)))) rfl (by kernel_rfl) (by kernel_rfl) (by kernel_rfl) (fun _ _ _ h => h) (.inl ⟨by rfl, fun w hw => by dsimp only at hw; go_simp⟩) hHeld ?_
        simp only [Act.put, List.setIfInBounds_toArray, List.set_cons_zero, List.set_cons_succ]
        refine wpAnyH_take (i := 6) (oi := ⟨some 11, _, _, _, _, _⟩) (v := (.pointer (some ⟨x, 0, none⟩))) rfl (by kernel_rfl) (by kernel_rfl) (by kernel_rfl) (fun _ _ _ h => h) (.inl ⟨by rfl, fun w hw => by dsimp only at hw; go_simp⟩) hHeld ?_
        simp only [Act.put, List.setIfInBounds_toArray, List.set_cons_zero, List.set_cons_succ]
        refine wpAnyH_take (i := 7) (oi := ⟨some 12, _, _, _, _, _⟩) (v := (.int .i64 (l))) rfl (by kernel_rfl) (by kernel_rfl) (by kernel_rfl) (fun _ _ _ h => h) (.inl ⟨by rfl, fun w hw => by dsimp only at hw; go_simp⟩) hHeld ?_
        simp only [Act.put, List.setIfInBounds_toArray, List.set_cons_zero, List.set_cons_succ]
        refine wpAnyH_take (i := 8) (oi := ⟨some 13, _, _, _, _, _⟩) (v := (.bool (false))) rfl (by kernel_rfl) (by kernel_rfl) (by kernel_rfl) (fun _ _ _ h => h) (.inl ⟨by rfl, fun w hw => by dsimp only at hw; go_simp⟩) hHeld ?_
        simp only [Act.put, List.setIfInBounds_toArray, List.set_cons_zero, List.set_cons_succ]
        refine wpAnyH_take (i := 9) (oi := ⟨some 14, _, _, _, _, _⟩) (v := (.bool (false))) rfl (by kernel_rfl) (by kernel_rfl) (by kernel_rfl) (fun _ _ _ h => h) (.inl ⟨by rfl, fun w hw => by dsimp only at hw; go_simp⟩) hHeld ?_
        simp only [Act.put, List.setIfInBounds_toArray, List.set_cons_zero, List.set_cons_succ]
        refine wpAnyH_take (i := 10) (oi := ⟨some 15, _, _, _, _, _⟩) (v := (.bool (false))) rfl (by kernel_rfl) (by kernel_rfl) (by kernel_rfl) (fun _ _ _ h => h) (.inl ⟨by rfl, fun w hw => by dsimp only at hw; go_simp⟩) hHeld ?_
        simp only [Act.put, List.setIfInBounds_toArray, List.set_cons_zero, List.set_cons_succ]
        refine wpAnyH_take (i := 11) (oi := ⟨some 16, _, _, _, _, _⟩) (v := (.string (t))) rfl (by kernel_rfl) (by kernel_rfl) (by kernel_rfl) (fun _ _ _ h => h) (.inl ⟨by rfl, fun w hw => by dsimp only at hw; go_simp⟩) hHeld ?_
        simp only [Act.put, List.setIfInBounds_toArray, List.set_cons_zero, List.set_cons_succ]
        refine wpAnyH_take (i := 12) (oi := ⟨some 17, _, _, _, _, _⟩) (v := (.int .i64 (((t).size : Int)))) rfl (by kernel_rfl) (by kernel_rfl) (by kernel_rfl) (fun _ _ _ h => h) (.inl ⟨by rfl, fun w hw => by dsimp only at hw; go_simp⟩) hHeld ?_
        simp only [Act.put, List.setIfInBounds_toArray, List.set_cons_zero, List.set_cons_succ]
        refine wpAnyH_take (i := 13) (oi := ⟨some 18, _, _, _, _, _⟩) (v := (.pointer (some ⟨x, 1, none⟩))) rfl (by kernel_rfl) (by kernel_rfl) (by kernel_rfl) (fun _ _ _ h => h) (.inl ⟨by rfl, fun w hw => by dsimp only at hw; go_simp⟩) hHeld ?_
        simp only [Act.put, List.setIfInBounds_toArray, List.set_cons_zero, List.set_cons_succ]
        refine wpAnyH_take (i := 14) (oi := ⟨some 19, _, _, _, _, _⟩) (v := (.int .i64 (h))) rfl (by kernel_rfl) (by kernel_rfl) (by kernel_rfl) (fun _ _ _ h => h) (.inl ⟨by rfl, fun w hw => by dsimp only at hw; go_simp⟩) hHeld ?_
        simp only [Act.put, List.setIfInBounds_toArray, List.set_cons_zero, List.set_cons_succ]
        refine wpAnyH_take (i := 15) (oi := ⟨some 20, _, _, _, _, _⟩) (v := (.bool (true))) rfl (by kernel_rfl) (by kernel_rfl) (by kernel_rfl) (fun _ _ _ h => h) (.inl ⟨by rfl, fun w hw => by dsimp only at hw; go_simp⟩) hHeld ?_
        simp only [Act.put, List.setIfInBounds_toArray, List.set_cons_zero, List.set_cons_succ]
        refine wpAnyH_take (i := 16) (oi := ⟨some 21, _, _, _, _, _⟩) (v := (.bool (true))) rfl (by kernel_rfl) (by kernel_rfl) (by kernel_rfl) (fun _ _ _ h => h) (.inl ⟨by rfl, fun w hw => by dsimp only at hw; go_simp⟩) hHeld ?_
        simp only [Act.put, List.setIfInBounds_toArray, List.set_cons_zero, List.set_cons_succ]
        refine wpAnyH_take (i := 17) (oi := ⟨some 22, _, _, _, _, _⟩) (v := (.bool (true))) rfl (by kernel_rfl) (by kernel_rfl) (by kernel_rfl) (fun _ _ _ h => h) (.inl ⟨by rfl, fun w hw => by dsimp only at hw; go_simp⟩) hHeld ?_
        simp only [Act.put, List.setIfInBounds_toArray, List.set_cons_zero, List.set_cons_succ]
        refine wpAnyH_take (i := 18) (oi := ⟨some 23, _, _, _, _, _⟩) rfl (by kernel_rfl) (by kernel_rfl) (by kernel_rfl) (fun _ _ _ h => h) (.inr ⟨by rfl, rfl⟩) hHeld ?_
        simp only [Act.put, List.setIfInBounds_toArray, List.set_cons_zero, List.set_cons_succ]
        refine wpAnyH_take (i := 19) (oi := ⟨some 24, _, _, _, _, _⟩) rfl (by kernel_rfl) (by kernel_rfl) (by kernel_rfl) (fun _ _ _ h => h) (.inr ⟨by rfl, rfl⟩) hHeld ?_
        simp only [Act.put, List.setIfInBounds_toArray, List.set_cons_zero, List.set_cons_succ]
        refine wpAnyH_take (i := 20) (oi := ⟨some 25, _, _, _, _, _⟩) rfl (by kernel_rfl) (by kernel_rfl) (by kernel_rfl) (fun _ _ _ h => h) (.inr ⟨by rfl, rfl⟩) hHeld ?_
        simp only [Act.put, List.setIfInBounds_toArray, List.set_cons_zero, List.set_cons_succ]
        refine wpAnyH_take (i := 21) (oi := ⟨some 26, _, _, _, _, _⟩) rfl (by kernel_rfl) (by kernel_rfl) (by kernel_rfl) (fun _ _ _ h => h) (.inr ⟨by rfl, rfl⟩) hHeld ?_
        simp only [Act.put, List.setIfInBounds_toArray, List.set_cons_zero, List.set_cons_succ]
        refine wpAnyH_take (i := 22) (oi := ⟨some 27, _, _, _, _, _⟩) rfl (by kernel_rfl) (by kernel_rfl) (by kernel_rfl) (fun _ _ _ h => h) (.inr ⟨by rfl, rfl⟩) hHeld ?_
        simp only [Act.put, List.setIfInBounds_toArray, List.set_cons_zero, List.set_cons_succ]
        refine wpAnyH_take (i := 23) (oi := ⟨some 28, _, _, _, _, _⟩) rfl (by kernel_rfl) (by kernel_rfl) (by kernel_rfl) (fun _ _ _ h => h) (.inr ⟨by rfl, rfl⟩) hHeld ?_
        simp only [Act.put, List.setIfInBounds_toArray, List.set_cons_zero, List.set_cons_succ]
        refine wpAnyH_take (i := 24) (oi := ⟨some 29, _, _, _, _, _⟩) (v := (.bool (true))) rfl (by kernel_rfl) (by kernel_rfl) (by kernel_rfl) (fun _ _ _ h => h) (.inl ⟨by rfl, fun w hw => by dsimp only at hw; go_simp⟩) hHeld ?_
        simp only [Act.put, List.setIfInBounds_toArray, List.set_cons_zero, List.set_cons_succ]
        refine wpAnyH_done (by kernel_rfl) ?_ _
        go_wp2_with fail
        go_ret
        exact ⟨ret_bool (by exact HR.out.symm), HF.out⟩
      · cases hcl : clsIn t.data.toList c
        · have HR := Lib.hid (HT.out.r4 hcl)
          have ham : subI (bitsI t.data.toList) c = false := by unfold subI; rw [hab, hcl]
          clear hab Hpre Hsuf HT
          refine wp_region_held_drew (S := fun w' => w'.cell? ⟨x, 0, none⟩ = some (.int .i64 (l)) ∧ w'.cell? ⟨x, 1, none⟩ = some (.int .i64 (h)) ∧ w'.cell? ⟨x, 2, none⟩ = some (.int .i64 (c)) ∧ w'.cell? ⟨x, 3, none⟩ = some (.string (b)) ∧ w'.cell? ⟨x, 4, none⟩ = some (.string (d))) (by kernel_rfl) ⟨a0, a1, a2, a3, a4⟩ (fun hHeld => ?_)
          refine wpAnyH_take (i := 0) (oi := ⟨some 5, _, _, _, _, _⟩) (v := (.string (t))) rfl (by kernel_rfl) (by kernel_rfl) (by kernel_rfl) (fun _ _ _ h => h) (.inl ⟨by rfl, fun w hw => by dsimp only at hw; go_simp⟩) hHeld ?_
          simp only [Act.put, List.setIfInBounds_toArray, List.set_cons_zero, List.set_cons_succ]
          refine wpAnyH_ready (rs := [1]) (by kernel_rfl) (by simp) ?_
          refine AllReadyH.cons (o := ⟨some 6, _, _, _, _, _⟩) rfl (fun K hK => ?_) AllReadyH.nil
          go_simp
          refine (isText2_any t ht _).mono ?_
          rintro e V1 ⟨rfl, rfl⟩
          rw [hx]
          refine hK.out _ _ hHeld (fun hHeld => ?_)
          clear hK K
          refine wpAnyH_take (i := 2) (oi := ⟨some 7, _, _, _, _, _⟩) (v := (.bool (false))) rfl (by kernel_rfl) (by kernel_rfl) (by kernel_rfl) (fun _ _ _ h => h) (.inl ⟨by rfl, fun w hw => by dsimp only at hw; go_simp⟩) hHeld ?_
          simp only [Act.put, List.setIfInBounds_toArray, List.set_cons_zero, List.set_cons_succ]
          refine wpAnyH_take (i := 3) (oi := ⟨some 8, _, _, _, _, _⟩) (v := (.bool (false))) rfl (by kernel_rfl) (by kernel_rfl) (by kernel_rfl) (fun _ _ _ h => h) (.inl ⟨by rfl, fun w hw => by dsimp only at hw; go_simp⟩) hHeld ?_
          simp only [Act.put, List.setIfInBounds_toArray, List.set_cons_zero, List.set_cons_succ]
          refine wpAnyH_take (i := 4) (oi := ⟨some 9, _, _, _, _, _⟩) (v := (.string (t))) rfl (by kernel_rfl) (by kernel_rfl) (by kernel_rfl) (fun _ _ _ h => h) (.inl ⟨by rfl, fun w hw => by dsimp only at hw; go_simp⟩) hHeld ?_
          simp only [Act.put, List.setIfInBounds_toArray, List.set_cons_zero, List.set_cons_succ]
          refine wpAnyH_take (i := 5) (oi := ⟨some 10, _, _, _, _, _⟩) (v := (.int .i64 (((t).size : Int)))) rfl (by kernel_rfl) (by kernel_rfl) (by kernel_rfl) (fun _ _ _ h => h) (.inl ⟨by rfl, fun w hw => by dsimp only at hw; go_simp⟩) hHeld ?_
          simp only [Act.put, List.setIfInBounds_toArray, List.set_cons_zero, List.set_cons_succ]
          refine wpAnyH_take (i := 6) (oi := ⟨some 11, _, _, _, _, _⟩) (v := (.pointer (some ⟨x, 0, none⟩))) rfl (by kernel_rfl) (by kernel_rfl) (by kernel_rfl) (fun _ _ _ h => h) (.inl ⟨by rfl, fun w hw => by dsimp only at hw; go_simp⟩) hHeld ?_
          simp only [Act.put, List.setIfInBounds_toArray, List.set_cons_zero, List.set_cons_succ]
          refine wpAnyH_take (i := 7) (oi := ⟨some 12, _, _, _, _, _⟩) (v := (.int .i64 (l))) rfl (by kernel_rfl) (by kernel_rfl) (by kernel_rfl) (fun _ _ _ h => h) (.inl ⟨by rfl, fun w hw => by dsimp only at hw; go_simp⟩) hHeld ?_
          simp only [Act.put, List.setIfInBounds_toArray, List.set_cons_zero, List.set_cons_succ]
          refine wpAnyH_take (i := 8) (oi := ⟨some 13, _, _, _, _, _⟩) (v := (.bool (false))) rfl (by kernel_rfl) (by kernel_rfl) (by kernel_rfl) (fun _ _ _ h => h) (.inl ⟨by rfl, fun w hw => by dsimp only at hw; go_simp⟩) hHeld ?_
          simp only [Act.put, List.setIfInBounds_toArray, List.set_cons_zero, List.set_cons_succ]
          refine wpAnyH_take (i := 9) (oi := ⟨some 14, _, _, _, _, _⟩) (v := (.bool (false))) rfl (by kernel_rfl) (by kernel_rfl) (by kernel_rfl) (fun _ _ _ h => h) (.inl ⟨by rfl, fun w hw => by dsimp only at hw; go_simp⟩) hHeld ?_
          simp only [Act.put, List.setIfInBounds_toArray, List.set_cons_zero, List.set_cons_succ]
          refine wpAnyH_take (i := 10) (oi := ⟨some 15, _, _, _, _, _⟩) (v := (.bool (false))) rfl (by kernel_rfl) (by kernel_rfl) (by kernel_rfl) (fun _ _ _ h => h) (.inl ⟨by rfl, fun w hw => by dsimp only at hw; go_simp⟩) hHeld ?_
          simp only [Act.put, List.setIfInBounds_toArray, List.set_cons_zero, List.set_cons_succ]
          refine wpAnyH_take (i := 11) (oi := ⟨some 16, _, _, _, _, _⟩) (v := (.string (t))) rfl (by kernel_rfl) (by kernel_rfl) (by kernel_rfl) (fun _ _ _ h => h) (.inl ⟨by rfl, fun w hw => by dsimp only at hw; go_simp⟩) hHeld ?_
          simp only [Act.put, List.setIfInBounds_toArray, List.set_cons_zero, List.set_cons_succ]
          refine wpAnyH_take (i := 12) (oi := ⟨some 17, _, _, _, _, _⟩) (v := (.int .i64 (((t).size : Int)))) rfl (by kernel_rfl) (by kernel_rfl) (by kernel_rfl) (fun _ _ _ h => h) (.inl ⟨by rfl, fun w hw => by dsimp only at hw; go_simp⟩) hHeld ?_
          simp only [Act.put, List.setIfInBounds_toArray, List.set_cons_zero, List.set_cons_succ]
          refine wpAnyH_take (i := 13) (oi := ⟨some 18, _, _, _, _, _⟩) (v := (.pointer (some ⟨x, 1, none⟩))) rfl (by kernel_rfl) (by kernel_rfl) (by kernel_rfl) (fun _ _ _ h => h) (.inl ⟨by rfl, fun w hw => by dsimp only at hw; go_simp⟩) hHeld ?_
          simp only [Act.put, List.setIfInBounds_toArray, List.set_cons_zero, List.set_cons_succ]
          refine wpAnyH_take (i := 14) (oi := ⟨some 19, _, _, _, _, _⟩) (v := (.int .i64 (h))) rfl (by kernel_rfl) (by kernel_rfl) (by kernel_rfl) (fun _ _ _ h => h) (.inl ⟨by rfl, fun w hw => by dsimp only at hw; go_simp⟩) hHeld ?_
          simp only [Act.put, List.setIfInBounds_toArray, List.set_cons_zero, List.set_cons_succ]
          refine wpAnyH_take (i := 15) (oi := ⟨some 20, _, _, _, _, _⟩) (v := (.bool (false))) rfl (by kernel_rfl) (by kernel_rfl) (by kernel_rfl) (fun _ _ _ h => h) (.inl ⟨by rfl, fun w hw => by dsimp only at hw; go_simp⟩) hHeld ?_
          simp only [Act.put, List.setIfInBounds_toArray, List.set_cons_zero, List.set_cons_succ]
          refine wpAnyH_take (i := 16) (oi := ⟨some 21, _, _, _, _, _⟩) (v := (.bool (false))) rfl (by kernel_rfl) (by kernel_rfl) (by kernel_rfl) (fun _ _ _ h => h) (.inl ⟨by rfl, fun w hw => by dsimp only at hw; go_simp⟩) hHeld ?_
          simp only [Act.put, List.setIfInBounds_toArray, List.set_cons_zero, List.set_cons_succ]
          refine wpAnyH_take (i := 17) (oi := ⟨some 22, _, _, _, _, _⟩) (v := (.bool (false))) rfl (by kernel_rfl) (by kernel_rfl) (by kernel_rfl) (fun _ _ _ h => h) (.inl ⟨by rfl, fun w hw => by dsimp only at hw; go_simp⟩) hHeld ?_
          simp only [Act.put, List.setIfInBounds_toArray, List.set_cons_zero, List.set_cons_succ]
          refine wpAnyH_take (i := 18) (oi := ⟨some 23, _, _, _, _, _⟩) (v := (.string (t))) rfl (by kernel_rfl) (by kernel_rfl) (by kernel_rfl) (fun _ _ _ h => h) (.inl ⟨by rfl, fun w hw => by dsimp only at hw; go_simp⟩) hHeld ?_
          simp only [Act.put, List.setIfInBounds_toArray, List.set_cons_zero, List.set_cons_succ]
          refine wpAnyH_take (i := 20) (oi := ⟨some 25, _, _, _, _, _⟩) (v := (.pointer (some ⟨x, 2, none⟩))) rfl (by kernel_rfl) (by kernel_rfl) (by kernel_rfl) (fun _ _ _ h => h) (.inl ⟨by rfl, fun w hw => by dsimp only at hw; go_simp⟩) hHeld ?_
          simp only [Act.put, List.setIfInBounds_toArray, List.set_cons_zero, List.set_cons_succ]
          refine wpAnyH_take (i := 21) (oi := ⟨some 26, _, _, _, _, _⟩) (v := (.int .i64 (c))) rfl (by kernel_rfl) (by kernel_rfl) (by kernel_rfl) (fun _ _ _ h => h) (.inl ⟨by rfl, fun w hw => by dsimp only at hw; go_simp⟩) hHeld ?_
          simp only [Act.put, List.setIfInBounds_toArray, List.set_cons_zero, List.set_cons_succ]
          refine wpAnyH_ready (rs := [19]) (by kernel_rfl) (by simp) ?_
          refine AllReadyH.cons (o := ⟨some 24, _, _, _, _, _⟩) rfl (fun K hK => ?_) AllReadyH.nil
          go_simp
          refine (bitsOf_any t ht _).mono ?_
          rintro e V2 ⟨rfl, rfl⟩
          refine hK.out _ _ hHeld (fun hHeld => ?_)
          clear hK K
          refine wpAnyH_ready (rs := [22]) (by kernel_rfl) (by simp) ?_
          refine AllReadyH.cons (o := ⟨some 27, _, _, _, _, _⟩) rfl (fun K hK => ?_) AllReadyH.nil
          go_simp
          refine (among_any (bitsI t.data.toList) c _).mono ?_
          rintro e V3 ⟨rfl, rfl⟩
          rw [ham]
          refine hK.out _ _ hHeld (fun hHeld => ?_)
          clear hK K
          refine wpAnyH_take (i := 23) (oi := ⟨some 28, _, _, _, _, _⟩) (v := (.bool (true))) rfl (by kernel_rfl) (by kernel_rfl) (by kernel_rfl) (fun _ _ _ h => h) (.inl ⟨by rfl, fun w hw => by dsimp only at hw; go_simp⟩) hHeld ?_
          simp only [Act.put, List.setIfInBounds_toArray, List.set_cons_zero, List.set_cons_succ]
          refine wpAnyH_take (i := 24) (oi := ⟨some 29, _, _, _, _, _⟩) (v := (.bool (true))) rfl (by kernel_rfl) (by kernel_rfl) (by kernel_rfl) (fun _ _ _ h => h) (.inl ⟨by rfl, fun w hw => by dsimp only at hw; go_simp⟩) hHeld ?_
          simp only [Act.put, List.setIfInBounds_toArray, List.set_cons_zero, List.set_cons_succ]
          refine wpAnyH_done (by kernel_rfl) ?_ _
          go_wp2_with fail
          go_ret
          exact ⟨ret_bool (by exact HR.out.symm), HF.out⟩
        · have HR := Lib.hid (HT.out.r5 hx h1 h2 hcl)
          have ham : subI (bitsI t.data.toList) c = true := by unfold subI; rw [hab, hcl]
          clear hab HT
          refine wp_region_held_drew (S := fun w' => w'.cell? ⟨x, 0, none⟩ = some (.int .i64 (l)) ∧ w'.cell? ⟨x, 1, none⟩ = some (.int .i64 (h)) ∧ w'.cell? ⟨x, 2, none⟩ = some (.int .i64 (c)) ∧ w'.cell? ⟨x, 3, none⟩ = some (.string (b)) ∧ w'.cell? ⟨x, 4, none⟩ = some (.string (d))) (by kernel_rfl) ⟨a0, a1, a2, a3, a4⟩ (fun hHeld => ?_)
          refine wpAnyH_take (i := 0) (oi := ⟨some 5, _, _, _, _, _⟩) (v := (.string (t))) rfl (by kernel_rfl) (by kernel_rfl) (by kernel_rfl) (fun _ _ _ h => h) (.inl ⟨by rfl, fun w hw => by dsimp only at hw; go_simp⟩) hHeld ?_
          simp only [Act.put, List.setIfInBounds_toArray, List.set_cons_zero, List.set_cons_succ]
          refine wpAnyH_ready (rs := [1]) (by kernel_rfl) (by simp) ?_
          refine AllReadyH.cons (o := ⟨some 6, _, _, _, _, _⟩) rfl (fun K hK => ?_) AllReadyH.nil
          go_simp
          refine (isText2_any t ht _).mono ?_
          rintro e V1 ⟨rfl, rfl⟩
          rw [hx]
          refine hK.out _ _ hHeld (fun hHeld => ?_)
          clear hK K
          refine wpAnyH_take (i := 2) (oi := ⟨some 7, _, _, _, _, _⟩) (v := (.bool (false))) rfl (by kernel_rfl) (by kernel_rfl) (by kernel_rfl) (fun _ _ _ h => h) (.inl ⟨by rfl, fun w hw => by dsimp only at hw; go_simp⟩) hHeld ?_
          simp only [Act.put, List.setIfInBounds_toArray, List.set_cons_zero, List.set_cons_succ]
          refine wpAnyH_take (i := 3) (oi := ⟨some 8, _, _, _, _, _⟩) (v := (.bool (false))) rfl (by kernel_rfl) (by kernel_rfl) (by kernel_rfl) (fun _ _ _ h => h) (.inl ⟨by rfl, fun w hw => by dsimp only at hw; go_simp⟩) hHeld ?_
          simp only [Act.put, List.setIfInBounds_toArray, List.set_cons_zero, List.set_cons_succ]
          refine wpAnyH_take (i := 4) (oi := ⟨some 9, _, _, _, _, _⟩) (v := (.string (t))) rfl (by kernel_rfl) (by kernel_rfl) (by kernel_rfl) (fun _ _ _ h => h) (.inl ⟨by rfl, fun w hw => by dsimp only at hw; go_simp⟩) hHeld ?_
          simp only [Act.put, List.setIfInBounds_toArray, List.set_cons_zero, List.set_cons_succ]
          refine wpAnyH_take (i := 5) (oi := ⟨some 10, _, _, _, _, _⟩) (v := (.int .i64 (((t).size : Int)))) rfl (by kernel_rfl) (by kernel_rfl) (by kernel_rfl) (fun _ _ _ h => h) (.inl ⟨by rfl, fun w hw => by dsimp only at hw; go_simp⟩) hHeld ?_
          simp only [Act.put, List.setIfInBounds_toArray, List.set_cons_zero, List.set_cons_succ]
          refine wpAnyH_take (i := 6) (oi := ⟨some 11, _, _, _, _, _⟩) (v := (.pointer (some ⟨x, 0, none⟩))) rfl (by kernel_rfl) (by kernel_rfl) (by kernel_rfl) (fun _ _ _ h => h) (.inl ⟨by rfl, fun w hw => by dsimp only at hw; go_simp⟩) hHeld ?_
          simp only [Act.put, List.setIfInBounds_toArray, List.set_cons_zero, List.set_cons_succ]
          refine wpAnyH_take (i := 7) (oi := ⟨some 12, _, _, _, _, _⟩) (v := (.int .i64 (l))) rfl (by kernel_rfl) (by kernel_rfl) (by kernel_rfl) (fun _ _ _ h => h) (.inl ⟨by rfl, fun w hw => by dsimp only at hw; go_simp⟩) hHeld ?_
          simp only [Act.put, List.setIfInBounds_toArray, List.set_cons_zero, List.set_cons_succ]
          refine wpAnyH_take (i := 8) (oi := ⟨some 13, _, _, _, _, _⟩) (v := (.bool (false))) rfl (by kernel_rfl) (by kernel_rfl) (by kernel_rfl) (fun _ _ _ h => h) (.inl ⟨by rfl, fun w hw => by dsimp only at hw; go_simp⟩) hHeld ?_
          simp only [Act.put, List.setIfInBounds_toArray, List.set_cons_zero, List.set_cons_succ]
          refine wpAnyH_take (i := 9) (oi := ⟨some 14, _, _, _, _, _⟩) (v := (.bool (false))) rfl (by kernel_rfl) (by kernel_rfl) (by kernel_rfl) (fun _ _ _ h => h) (.inl ⟨by rfl, fun w hw => by dsimp only at hw; go_simp⟩) hHeld ?_
          simp only [Act.put, List.setIfInBounds_toArray, List.set_cons_zero, List.set_cons_succ]
          refine wpAnyH_take (i := 10) (oi := ⟨some 15, _, _, _, _, _⟩) (v := (.bool (false))) rfl (by kernel_rfl) (by kernel_rfl) (by kernel_rfl) (fun _ _ _ h => h) (.inl ⟨by rfl, fun w hw => by dsimp only at hw; go_simp⟩) hHeld ?_
          simp only [Act.put, List.setIfInBounds_toArray, List.set_cons_zero, List.set_cons_succ]
          refine wpAnyH_take (i := 11) (oi := ⟨some 16, _, _, _, _, _⟩) (v := (.string (t))) rfl (by kernel_rfl) (by kernel_rfl) (by kernel_rfl) (fun _ _ _ h => h) (.inl ⟨by rfl, fun w hw => by dsimp only at hw; go_simp⟩) hHeld ?_
          simp only [Act.put, List.setIfInBounds_toArray, List.set_cons_zero, List.set_cons_succ]
          refine wpAnyH_take (i := 12) (oi := ⟨some 17, _, _, _, _, _⟩) (v := (.int .i64 (((t).size : Int)))) rfl (by kernel_rfl) (by kernel_rfl) (by kernel_rfl) (fun _ _ _ h => h) (.inl ⟨by rfl, fun w hw => by dsimp only at hw; go_simp⟩) hHeld ?_
          simp only [Act.put, List.setIfInBounds_toArray, List.set_cons_zero, List.set_cons_succ]
          refine wpAnyH_take (i := 13) (oi := ⟨some 18, _, _, _, _, _⟩) (v := (.pointer (some ⟨x, 1, none⟩))) rfl (by kernel_rfl) (by kernel_rfl) (by kernel_rfl) (fun _ _ _ h => h) (.inl ⟨by rfl, fun w hw => by dsimp only at hw; go_simp⟩) hHeld ?_
          simp only [Act.put, List.setIfInBounds_toArray, List.set_cons_zero, List.set_cons_succ]
          refine wpAnyH_take (i := 14) (oi := ⟨some 19, _, _, _, _, _⟩) (v := (.int .i64 (h))) rfl (by kernel_rfl) (by kernel_rfl) (by kernel_rfl) (fun _ _ _ h => h) (.inl ⟨by rfl, fun w hw => by dsimp only at hw; go_simp⟩) hHeld ?_
          simp only [Act.put, List.setIfInBounds_toArray, List.set_cons_zero, List.set_cons_succ]
          refine wpAnyH_take (i := 15) (oi := ⟨some 20, _, _, _, _, _⟩) (v := (.bool (false))) rfl (by kernel_rfl) (by kernel_rfl) (by kernel_rfl) (fun _ _ _ h => h) (.inl ⟨by rfl, fun w hw => by dsimp only at hw; go_simp⟩) hHeld ?_
          simp only [Act.put, List.setIfInBounds_toArray, List.set_cons_zero, List.set_cons_succ]
          refine wpAnyH_take (i := 16) (oi := ⟨some 21, _, _, _, _, _⟩) (v := (.bool (false))) rfl (by kernel_rfl) (by kernel_rfl) (by kernel_rfl) (fun _ _ _ h => h) (.inl ⟨by rfl, fun w hw => by dsimp only at hw; go_simp⟩) hHeld ?_
          simp only [Act.put, List.setIfInBounds_toArray, List.set_cons_zero, List.set_cons_succ]
          refine wpAnyH_take (i := 17) (oi := ⟨some 22, _, _, _, _, _⟩) (v := (.bool (false))) rfl (by kernel_rfl) (by kernel_rfl) (by kernel_rfl) (fun _ _ _ h => h) (.inl ⟨by rfl, fun w hw => by dsimp only at hw; go_simp⟩) hHeld ?_
          simp only [Act.put, List.setIfInBounds_toArray, List.set_cons_zero, List.set_cons_succ]
          refine wpAnyH_take (i := 18) (oi := ⟨some 23, _, _, _, _, _⟩) (v := (.string (t))) rfl (by kernel_rfl) (by kernel_rfl) (by kernel_rfl) (fun _ _ _ h => h) (.inl ⟨by rfl, fun w hw => by dsimp only at hw; go_simp⟩) hHeld ?_
          simp only [Act.put, List.setIfInBounds_toArray, List.set_cons_zero, List.set_cons_succ]
          refine wpAnyH_take (i := 20) (oi := ⟨some 25, _, _, _, _, _⟩) (v := (.pointer (some ⟨x, 2, none⟩))) rfl (by kernel_rfl) (by kernel_rfl) (by kernel_rfl) (fun _ _ _ h => h) (.inl ⟨by rfl, fun w hw => by dsimp only at hw; go_simp⟩) hHeld ?_
          simp only [Act.put, List.setIfInBounds_toArray, List.set_cons_zero, List.set_cons_succ]
          refine wpAnyH_take (i := 21) (oi := ⟨some 26, _, _, _, _, _⟩) (v := (.int .i64 (c))) rfl (by kernel_rfl) (by kernel_rfl) (by kernel_rfl) (fun _ _ _ h => h) (.inl ⟨by rfl, fun w hw => by dsimp only at hw; go_simp⟩) hHeld ?_
          simp only [Act.put, List.setIfInBounds_toArray, List.set_cons_zero, List.set_cons_succ]
          refine wpAnyH_ready (rs := [19]) (by kernel_rfl) (by simp) ?_
          refine AllReadyH.cons (o := ⟨some 24, _, _, _, _, _⟩) rfl (fun K hK => ?_) AllReadyH.nil
          go_simp
          refine (bitsOf_any t ht _).mono ?_
          rintro e V2 ⟨rfl, rfl⟩
          refine hK.out _ _ hHeld (fun hHeld => ?_)
          clear hK K
          refine wpAnyH_ready (rs := [22]) (by kernel_rfl) (by simp) ?_
          refine AllReadyH.cons (o := ⟨some 27, _, _, _, _, _⟩) rfl (fun K hK => ?_) AllReadyH.nil
          go_simp
          refine (among_any (bitsI t.data.toList) c _).mono ?_
          rintro e V3 ⟨rfl, rfl⟩
          rw [ham]
          refine hK.out _ _ hHeld (fun hHeld => ?_)
          clear hK K
          refine wpAnyH_take (i := 23) (oi := ⟨some 28, _, _, _, _, _⟩) (v := (.bool (false))) rfl (by kernel_rfl) (by kernel_rfl) (by kernel_rfl) (fun _ _ _ h => h) (.inl ⟨by rfl, fun w hw => by dsimp only at hw; go_simp⟩) hHeld ?_
          simp only [Act.put, List.setIfInBounds_toArray, List.set_cons_zero, List.set_cons_succ]
          refine wpAnyH_take (i := 24) (oi := ⟨some 29, _, _, _, _, _⟩) (v := (.bool (false))) rfl (by kernel_rfl) (by kernel_rfl) (by kernel_rfl) (fun _ _ _ h => h) (.inl ⟨by rfl, fun w hw => by dsimp only at hw; go_simp⟩) hHeld ?_
          simp only [Act.put, List.setIfInBounds_toArray, List.set_cons_zero, List.set_cons_succ]
          refine wpAnyH_done (by kernel_rfl) ?_ _
          obtain ⟨a0, a1, a2, a3, a4⟩ := hHeld
          clear ham hcl hx h1 h2
          go_wp2_with fail
          refine (Hpre.out _).mono ?_
          rintro e V9 ⟨rfl, rfl⟩
          cases hp : b.data.toList.isPrefixOf t.data.toList
          · have HR2 : Hid (R = false) := Lib.hid (by have := HR.out; simp only [hp, Bool.false_and] at this; exact this)
            clear HR
            go_wp2_with fail
            go_ret
            exact ⟨ret_bool (by first | exact HR2.out.symm | (rw [HR2.out]; exact hp)), HF.out⟩
          · have HR2 : Hid (R = d.data.toList.isSuffixOf t.data.toList) := Lib.hid (by have := HR.out; simp only [hp, Bool.true_and] at this; exact this)
            clear HR
            go_wp2_with fail
            refine (Hsuf.out _).mono ?_
            rintro e V9 ⟨rfl, rfl⟩
            go_wp2_with fail
            go_ret
            exact ⟨ret_bool HR2.out.symm, HF.out⟩
end Go.Proofs.YtgnjakaamgeibaaGreatDoor
