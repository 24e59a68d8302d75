/-
  Shapes: plain lists. Nothing of the program is imported. Conditions: none.
-/
import Derived.Test.YtgnjakaamgeibaaGreatDoorFnd
namespace Go.Proofs.YtgnjakaamgeibaaGreatDoor
/-- A bit of an int. -/
def bt (c : Int) (k : Nat) : Bool := (BitVec.ofInt 64 c).getLsbD k
/-- A set of classes as an int: the bits that the operators give. -/
def iAnd (a b : Int) : Int := (BitVec.ofInt 64 a &&& BitVec.ofInt 64 b).toInt
def iOr (a b : Int) : Int := (BitVec.ofInt 64 a ||| BitVec.ofInt 64 b).toInt
def iAndNot (a b : Int) : Int := (BitVec.ofInt 64 a &&& ~~~(BitVec.ofInt 64 b)).toInt
theorem bt_and (a b : Int) (k : Nat) : bt (iAnd a b) k = (bt a k && bt b k) := by unfold bt iAnd; rw [BitVec.ofInt_toInt, BitVec.getLsbD_and]
theorem bt_or (a b : Int) (k : Nat) : bt (iOr a b) k = (bt a k || bt b k) := by unfold bt iOr; rw [BitVec.ofInt_toInt, BitVec.getLsbD_or]
theorem bt_andNot (a b : Int) (k : Nat) (hk : k < 64) : bt (iAndNot a b) k = (bt a k && !bt b k) := by
  unfold bt iAndNot
  rw [BitVec.ofInt_toInt, BitVec.getLsbD_and, BitVec.getLsbD_not]
  simp [hk]
theorem bt_ext {a b : Int} (ha : -9223372036854775808 ≤ a ∧ a ≤ 9223372036854775807) (hb : -9223372036854775808 ≤ b ∧ b ≤ 9223372036854775807) (h : ∀ k, k < 64 → bt a k = bt b k) : a = b := by
  have e : BitVec.ofInt 64 a = BitVec.ofInt 64 b := BitVec.eq_of_getLsbD_eq fun k hk => h k hk
  have e2 := congrArg BitVec.toInt e
  rw [BitVec.toInt_ofInt, BitVec.toInt_ofInt] at e2
  rw [Int.bmod_eq_of_le (by omega) (by omega), Int.bmod_eq_of_le (by omega) (by omega)] at e2
  exact e2
theorem rng_and (a b : Int) : -9223372036854775808 ≤ iAnd a b ∧ iAnd a b ≤ 9223372036854775807 := by
  unfold iAnd
  have h1 := BitVec.le_toInt (BitVec.ofInt 64 a &&& BitVec.ofInt 64 b)
  have h2 := BitVec.toInt_lt (x := BitVec.ofInt 64 a &&& BitVec.ofInt 64 b)
  omega
theorem rng_or (a b : Int) : -9223372036854775808 ≤ iOr a b ∧ iOr a b ≤ 9223372036854775807 := by
  unfold iOr
  have h1 := BitVec.le_toInt (BitVec.ofInt 64 a ||| BitVec.ofInt 64 b)
  have h2 := BitVec.toInt_lt (x := BitVec.ofInt 64 a ||| BitVec.ofInt 64 b)
  omega
theorem rng_andNot (a b : Int) : -9223372036854775808 ≤ iAndNot a b ∧ iAndNot a b ≤ 9223372036854775807 := by
  unfold iAndNot
  have h1 := BitVec.le_toInt (BitVec.ofInt 64 a &&& ~~~(BitVec.ofInt 64 b))
  have h2 := BitVec.toInt_lt (x := BitVec.ofInt 64 a &&& ~~~(BitVec.ofInt 64 b))
  omega
theorem bt_zero (k : Nat) : bt 0 k = false := by unfold bt; rw [BitVec.ofInt_ofNat]; simp
/-- The bits of the classes of a string. -/
def bitsI (l : List UInt8) : Int := l.foldl (fun v c => iOr v (2 ^ clsB c)) 0
theorem cls_le (c : UInt8) : clsB c ≤ 6 := by unfold clsB; split <;> (try split) <;> (try split) <;> (try split) <;> (try split) <;> omega
theorem bt_pow (j k : Nat) (hj : j ≤ 6) (hk : k < 64) : bt (2 ^ j) k = decide (k = j) := by
  have : j = 0 ∨ j = 1 ∨ j = 2 ∨ j = 3 ∨ j = 4 ∨ j = 5 ∨ j = 6 := by omega
  have key : ∀ k : Fin 64, ∀ j : Fin 7, bt (2 ^ j.1) k.1 = decide (k.1 = j.1) := by decide
  exact key ⟨k, hk⟩ ⟨j, by omega⟩
theorem bits_snoc (l : List UInt8) (c : UInt8) : bitsI (l ++ [c]) = iOr (bitsI l) (2 ^ clsB c) := by simp [bitsI]
theorem bits_ind {P : List UInt8 → Prop} (h0 : P []) (h1 : ∀ l c, P l → P (l ++ [c])) (l : List UInt8) : P l := by
  have : ∀ n (l : List UInt8), l.length = n → P l := by
    intro n
    induction n with
    | zero => intro l hl; rw [List.eq_nil_of_length_eq_zero hl]; exact h0
    | succ n ih =>
      intro l hl
      have hne : l ≠ [] := by intro e; rw [e] at hl; cases hl
      rw [← List.dropLast_concat_getLast hne]
      exact h1 _ _ (ih _ (by rw [List.length_dropLast]; omega))
  exact this _ l rfl
theorem bits_rng (l : List UInt8) : -9223372036854775808 ≤ bitsI l ∧ bitsI l ≤ 9223372036854775807 := by
  refine bits_ind (P := fun l => -9223372036854775808 ≤ bitsI l ∧ bitsI l ≤ 9223372036854775807) (by decide) (fun l c _ => ?_) l
  rw [bits_snoc]
  exact rng_or _ _
theorem bt_bits (l : List UInt8) (k : Nat) (hk : k < 64) : bt (bitsI l) k = l.any (fun c => decide (k = clsB c)) := by
  refine bits_ind (P := fun l => bt (bitsI l) k = l.any (fun c => decide (k = clsB c))) (bt_zero k) (fun l c ih => ?_) l
  rw [bits_snoc, bt_or, ih, bt_pow _ _ (cls_le c) hk, List.any_append]
  simp
/-- All bytes have classes of the set. -/
def clsIn (l : List UInt8) (c : Int) : Bool := l.all fun x => bt c (clsB x)
theorem among_bits (l : List UInt8) (c : Int) : (iAndNot (bitsI l) c == 0) = clsIn l c := by
  rw [Bool.eq_iff_iff, beq_iff_eq]
  unfold clsIn
  rw [List.all_eq_true]
  constructor
  · intro h x hx
    have h1 := bt_andNot (bitsI l) c (clsB x) (by have := cls_le x; omega)
    rw [h, bt_zero, bt_bits _ _ (by have := cls_le x; omega)] at h1
    have h2 : l.any (fun y => decide (clsB x = clsB y)) = true := List.any_eq_true.2 ⟨x, hx, by simp⟩
    rw [h2] at h1
    simpa using h1
  · intro h
    refine bt_ext (rng_andNot _ _) (by decide) fun k hk => ?_
    rw [bt_andNot _ _ _ hk, bt_zero, bt_bits _ _ hk]
    cases ha : l.any (fun c => decide (k = clsB c))
    · rfl
    · obtain ⟨x, hx, e⟩ := List.any_eq_true.1 ha
      rw [decide_eq_true_eq] at e
      rw [e, h x hx]
      rfl
theorem and_bits (l : List UInt8) (c : Int) : (iAnd (bitsI l) c == bitsI l) = clsIn l c := by
  rw [Bool.eq_iff_iff, beq_iff_eq]
  unfold clsIn
  rw [List.all_eq_true]
  constructor
  · intro h x hx
    have h1 := bt_and (bitsI l) c (clsB x)
    rw [h, bt_bits _ _ (by have := cls_le x; omega)] at h1
    have h2 : l.any (fun y => decide (clsB x = clsB y)) = true := List.any_eq_true.2 ⟨x, hx, by simp⟩
    rw [h2] at h1
    simpa using h1.symm
  · intro h
    refine bt_ext (rng_and _ _) (bits_rng l) fun k hk => ?_
    rw [bt_and, bt_bits _ _ hk]
    cases ha : l.any (fun c => decide (k = clsB c))
    · rfl
    · obtain ⟨x, hx, e⟩ := List.any_eq_true.1 ha
      rw [decide_eq_true_eq] at e
      rw [e, h x hx]
      rfl
theorem bt_all (k : Nat) (hk : k ≤ 6) : bt 110 k = decide (k ≠ 0 ∧ k ≠ 4) := by
  have key : ∀ k : Fin 7, bt 110 k.1 = decide (k.1 ≠ 0 ∧ k.1 ≠ 4) := by decide
  exact key ⟨k, by omega⟩
theorem cls_four (c : UInt8) : clsB c ≠ 4 := by unfold clsB; split <;> (try split) <;> (try split) <;> (try split) <;> (try split) <;> omega
theorem clsIn_all (l : List UInt8) : clsIn l 110 = chrs l := by
  unfold clsIn chrs
  congr 1
  funext c
  rw [bt_all _ (cls_le c), Bool.eq_iff_iff]
  have := cls_four c
  simp [this]
theorem clsIn_app (s t : List UInt8) (c : Int) : clsIn (s ++ t) c = (clsIn s c && clsIn t c) := by unfold clsIn; rw [List.all_append]
theorem clsIn_own {l : List UInt8} {c : Int} : clsIn l (iAnd c 110) = (clsIn l c && chrs l) := by
  rw [← clsIn_all]
  unfold clsIn
  rw [Bool.eq_iff_iff, Bool.and_eq_true, List.all_eq_true, List.all_eq_true, List.all_eq_true]
  constructor
  · intro h
    exact ⟨fun x hx => by have := h x hx; rw [bt_and, Bool.and_eq_true] at this; exact this.1, fun x hx => by have := h x hx; rw [bt_and, Bool.and_eq_true] at this; exact this.2⟩
  · rintro ⟨h1, h2⟩ x hx
    rw [bt_and, h1 x hx, h2 x hx]; rfl
structure Shp where
  lo : Int
  hi : Int
  cl : Int
  bg : ByteArray
  en : ByteArray
abbrev Shp.b (a : Shp) : List UInt8 := a.bg.data.toList
abbrev Shp.e (a : Shp) : List UInt8 := a.en.data.toList
def inS (a : Shp) (t : List UInt8) : Bool := textB t && decide (a.lo ≤ (t.length : Int)) && decide ((t.length : Int) ≤ a.hi) && clsIn t a.cl && a.b.isPrefixOf t && a.e.isSuffixOf t
def lowS (a : Shp) : Int := max (max (max 0 a.lo) a.b.length) a.e.length
def highS (a : Shp) : Int := min a.hi 200
def ownS (a : Shp) : Int := iAnd a.cl 110
def none' : Shp := ⟨1, 0, 0, ⟨#[]⟩, ⟨#[]⟩⟩
/-- Begin and End overlap by so many bytes. -/
def lapB (a : Shp) (o : Nat) : Bool := a.b.drop (a.b.length - o) == a.e.take o
def empB (a : Shp) : Bool :=
  decide (highS a < lowS a) || !(clsIn a.b (ownS a)) || !(clsIn a.e (ownS a)) ||
    (if ownS a = 0 then decide (0 < lowS a) else if (a.b.length : Int) + a.e.length ≤ highS a then false
     else !((List.range 201).any fun n => decide (lowS a ≤ (n : Int)) && decide ((n : Int) ≤ highS a) && lapB a (a.b.length + a.e.length - n)))
theorem inS_iff {a : Shp} {t : List UInt8} : inS a t = true ↔ t.length ≤ 200 ∧ chrs t = true ∧ a.lo ≤ (t.length : Int) ∧ (t.length : Int) ≤ a.hi ∧ clsIn t a.cl = true ∧ a.b <+: t ∧ a.e <:+ t := by
  unfold inS textB
  simp only [Bool.and_eq_true, decide_eq_true_eq, List.isPrefixOf_iff_prefix, List.isSuffixOf_iff_suffix]
  constructor
  · rintro ⟨⟨⟨⟨⟨⟨h1, h2⟩, h3⟩, h4⟩, h5⟩, h6⟩, h7⟩; exact ⟨h1, h2, h3, h4, h5, h6, h7⟩
  · rintro ⟨h1, h2, h3, h4, h5, h6, h7⟩; exact ⟨⟨⟨⟨⟨⟨h1, h2⟩, h3⟩, h4⟩, h5⟩, h6⟩, h7⟩
theorem clsIn_pre {s t : List UInt8} {c : Int} (h : s <+: t) (ht : clsIn t c = true) : clsIn s c = true := by
  obtain ⟨r, rfl⟩ := h
  rw [clsIn_app, Bool.and_eq_true] at ht
  exact ht.1
theorem clsIn_suf {s t : List UInt8} {c : Int} (h : s <:+ t) (ht : clsIn t c = true) : clsIn s c = true := by
  obtain ⟨r, rfl⟩ := h
  rw [clsIn_app, Bool.and_eq_true] at ht
  exact ht.2
theorem lap_of {b e t : List UInt8} (hb : b <+: t) (he : e <:+ t) (h : t.length ≤ b.length + e.length) : b.drop (b.length - (b.length + e.length - t.length)) = e.take (b.length + e.length - t.length) := by
  have h1 := hb.length_le
  have h2 := he.length_le
  have e1 : b = t.take b.length := List.prefix_iff_eq_take.1 hb
  have e2 : e = t.drop (t.length - e.length) := List.suffix_iff_eq_drop.1 he
  have e3 : b.length - (b.length + e.length - t.length) = t.length - e.length := by omega
  rw [e3]
  conv => lhs; rw [e1]
  conv => rhs; rw [e2]
  rw [List.take_drop]
  simp only [List.length_drop]
  congr 2
  omega
theorem bits_own {l : List UInt8} (h : l ≠ []) (c : Int) (hc : clsIn l c = true) : c ≠ 0 := by
  intro e
  subst e
  cases l with
  | nil => exact h rfl
  | cons x l =>
    unfold clsIn at hc
    rw [List.all_cons, bt_zero] at hc
    cases hc
/-- A shape that contains a text is not empty. -/
theorem emp_of {a : Shp} {t : List UInt8} (h : inS a t = true) : empB a = false := by
  obtain ⟨h1, h2, h3, h4, h5, h6, h7⟩ := inS_iff.1 h
  have l1 := h6.length_le
  have l2 := h7.length_le
  have ho : clsIn t (ownS a) = true := by unfold ownS; rw [clsIn_own, h5, h2]; rfl
  have e1 : clsIn a.b (ownS a) = true := clsIn_pre h6 ho
  have e2 : clsIn a.e (ownS a) = true := clsIn_suf h7 ho
  have hlow : lowS a ≤ t.length := by unfold lowS; omega
  have hhigh : (t.length : Int) ≤ highS a := by unfold highS; omega
  unfold empB
  rw [decide_eq_false (by omega), e1, e2]
  simp only [Bool.not_true, Bool.false_or]
  split
  · rename_i hz
    by_cases ht : t = []
    · subst ht
      rw [decide_eq_false (by simp at hlow; omega)]
    · exact absurd hz (bits_own ht _ ho)
  · split
    · rfl
    · rename_i hap
      rw [Bool.not_eq_false', List.any_eq_true]
      refine ⟨t.length, List.mem_range.2 (by omega), ?_⟩
      rw [decide_eq_true hlow, decide_eq_true hhigh]
      simp only [Bool.true_and]
      unfold lapB
      rw [beq_iff_eq]
      exact lap_of h6 h7 (by omega)
def fillC (c : Int) : UInt8 := (((List.range 95).map fun k => UInt8.ofNat (k + 32)).find? fun x => bt c (clsB x)).getD 32
/-- The text of a length that begins and ends as a shape says. -/
def someL (a : Shp) (n : Nat) : Option (List UInt8) :=
  if n < a.b.length ∨ n < a.e.length then none
  else if a.b.length + a.e.length ≤ n then some (a.b ++ List.replicate (n - (a.b.length + a.e.length)) (fillC a.cl) ++ a.e)
  else if lapB a (a.b.length + a.e.length - n) then some (a.b ++ a.e.drop (a.b.length + a.e.length - n)) else none
theorem some_len {a : Shp} {n : Nat} {s : List UInt8} (h : someL a n = some s) : s.length = n := by
  unfold someL at h
  split at h
  · cases h
  split at h
  · injection h with h
    subst h
    simp only [List.length_append, List.length_replicate]
    omega
  split at h
  · injection h with h
    subst h
    simp only [List.length_append, List.length_drop]
    omega
  · cases h
end Go.Proofs.YtgnjakaamgeibaaGreatDoor
