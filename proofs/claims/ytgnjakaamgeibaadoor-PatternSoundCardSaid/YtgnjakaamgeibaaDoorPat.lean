/-
  Patterns: plain lists. Nothing of the program is imported. Conditions: none.
-/
import Derived.Lib.Hide
namespace Go.Proofs.YtgnjakaamgeibaaDoor

/-! ### Classes -/
def clsB (c : UInt8) : Nat :=
  if c.toNat < 32 ∨ 126 < c.toNat then 0 else if 48 ≤ c.toNat ∧ c.toNat ≤ 57 then 1 else if 65 ≤ c.toNat ∧ c.toNat ≤ 90 then 2 else if 97 ≤ c.toNat ∧ c.toNat ≤ 122 then 3 else if c.toNat = 32 then 5 else 6
def insB (k w : Int) : Bool := k == w || w == 7 || (w == 4 && (k == 2 || k == 3))
def chrs (l : List UInt8) : Bool := l.all fun c => clsB c != 0
def consB (l : List UInt8) (k : Int) : Bool := l.all fun c => insB (clsB c) k
def textB (l : List UInt8) : Bool := decide (l.length ≤ 200) && chrs l
/-- The characters that have a backslash in front. -/
def spc (c : UInt8) : Bool := c == 92 || c == 123 || c == 125 || c == 43 || c == 42

/-! ### Pieces -/
structure Pc where
  cls : Int
  lo : Int
  hi : Int
  txt : ByteArray
abbrev Pc.t (p : Pc) : List UInt8 := p.txt.data.toList
def pieceB (p : Pc) : Bool :=
  if p.cls = 0 then decide (p.lo = 0) && decide (p.hi = 0) && !p.t.isEmpty && chrs p.t
  else decide (1 ≤ p.cls) && decide (p.cls ≤ 7) && p.t.isEmpty && decide (0 ≤ p.lo) && decide (p.lo ≤ p.hi) && decide (1 ≤ p.hi) && decide (p.hi ≤ 200)
def pcsB : Bool → List Pc → Bool
  | _, [] => true
  | l, p :: r => pieceB p && !(l && decide (p.cls = 0)) && pcsB (decide (p.cls = 0)) r
/-- A number from 0 to 999. -/
def dec3 (n : Nat) : List UInt8 := if n < 10 then [UInt8.ofNat (48 + n)] else if n < 100 then [UInt8.ofNat (48 + n / 10), UInt8.ofNat (48 + n % 10)] else [UInt8.ofNat (48 + n / 100), UInt8.ofNat (48 + n / 10 % 10), UInt8.ofNat (48 + n % 10)]
def cntW (a b : Int) : List UInt8 :=
  if a = 1 ∧ b = 1 then [] else if a = 1 ∧ b = 200 then [43] else if a = 0 ∧ b = 200 then [42]
  else if a = b then [123] ++ dec3 a.toNat ++ [125] else [123] ++ dec3 a.toNat ++ [44] ++ dec3 b.toNat ++ [125]
def lets : List UInt8 := [100, 117, 108, 97, 115, 111, 46]
def wrtC (c : UInt8) : List UInt8 := if spc c then [92, c] else [c]
def wrtP (p : Pc) : List UInt8 := if p.cls = 0 then p.t.flatMap wrtC else [92, lets.getD (p.cls - 1).toNat 0] ++ cntW p.lo p.hi
def wrt (ps : List Pc) : List UInt8 := ps.flatMap wrtP
def rightB (ps : List Pc) : Bool := pcsB false ps && decide ((wrt ps).length ≤ 60)
def printL (ps : List Pc) : List UInt8 := if rightB ps then wrt ps else []

theorem wrtP_pos {p : Pc} (h : pieceB p = true) : 1 ≤ (wrtP p).length := by
  unfold pieceB at h
  unfold wrtP
  split
  · rename_i hc
    rw [if_pos hc] at h
    simp only [Bool.and_eq_true, Bool.not_eq_true', List.isEmpty_eq_false_iff] at h
    cases ht : p.t with
    | nil => exact absurd ht h.1.2
    | cons a l =>
      rw [List.flatMap_cons, List.length_append]
      have : 1 ≤ (wrtC a).length := by unfold wrtC; split <;> simp
      omega
  · simp
theorem wrt_len : ∀ (ps : List Pc) (l : Bool), pcsB l ps = true → ps.length ≤ (wrt ps).length
  | [], _, _ => Nat.zero_le _
  | p :: r, l, h => by
    rw [pcsB, Bool.and_eq_true, Bool.and_eq_true] at h
    have h1 := wrtP_pos h.1.1
    have h2 := wrt_len r _ h.2
    unfold wrt at h2 ⊢
    rw [List.flatMap_cons, List.length_append, List.length_cons]
    omega
theorem right_ref (ps : List Pc) : rightB ps = (pcsB false ps && (decide (ps.length ≤ 60) && decide ((wrt ps).length ≤ 60))) := by
  unfold rightB
  cases h : pcsB false ps
  · rfl
  · have := wrt_len ps false h
    by_cases h2 : (wrt ps).length ≤ 60
    · rw [decide_eq_true h2, decide_eq_true (show ps.length ≤ 60 by omega)]; rfl
    · rw [decide_eq_false h2]; simp

theorem pcs_mem : ∀ (ps : List Pc) (l : Bool), pcsB l ps = true → ∀ p ∈ ps, pieceB p = true
  | [], _, _, p, hp => by cases hp
  | q :: r, l, h, p, hp => by
    rw [pcsB, Bool.and_eq_true, Bool.and_eq_true] at h
    rcases List.mem_cons.1 hp with rfl | hp
    · exact h.1.1
    · exact pcs_mem r _ h.2 p hp
theorem right_mem {ps : List Pc} (h : rightB ps = true) : ∀ p ∈ ps, pieceB p = true := by
  unfold rightB at h
  rw [Bool.and_eq_true] at h
  exact pcs_mem ps _ h.1

/-! ### What matches -/
/-- A part fits a piece. -/
def fits (e : Pc) (t : List UInt8) : Bool := if e.cls = 0 then t == e.t else decide (e.lo ≤ (t.length : Int)) && decide ((t.length : Int) ≤ e.hi) && consB t e.cls
def mtB : List Pc → List UInt8 → Bool
  | [], t => t.isEmpty
  | e :: r, t => (List.range (t.length + 1)).any fun n => fits e (t.take n) && mtB r (t.drop n)
theorem mt_cons {e : Pc} {r : List Pc} {t : List UInt8} : mtB (e :: r) t = true ↔ ∃ n, n ≤ t.length ∧ fits e (t.take n) = true ∧ mtB r (t.drop n) = true := by
  rw [mtB, List.any_eq_true]
  constructor
  · rintro ⟨n, h1, h2⟩
    rw [Bool.and_eq_true] at h2
    exact ⟨n, by have := List.mem_range.1 h1; omega, h2⟩
  · rintro ⟨n, h1, h2⟩
    exact ⟨n, List.mem_range.2 (by omega), by rw [Bool.and_eq_true]; exact h2⟩
theorem mt_app {p q : List Pc} {s t : List UInt8} (h1 : mtB p s = true) (h2 : mtB q t = true) : mtB (p ++ q) (s ++ t) = true := by
  induction p generalizing s with
  | nil =>
    rw [mtB, List.isEmpty_iff] at h1
    subst h1
    exact h2
  | cons e r ih =>
    obtain ⟨n, hn, hf, hr⟩ := mt_cons.1 h1
    refine mt_cons.2 ⟨n, by rw [List.length_append]; omega, ?_, ?_⟩
    · rw [List.take_append_of_le_length hn]; exact hf
    · rw [List.drop_append_of_le_length hn]; exact ih hr
theorem mt_split {p q : List Pc} {t : List UInt8} (h : mtB (p ++ q) t = true) : ∃ n, n ≤ t.length ∧ mtB p (t.take n) = true ∧ mtB q (t.drop n) = true := by
  induction p generalizing t with
  | nil => exact ⟨0, Nat.zero_le _, by simp [mtB], by simpa using h⟩
  | cons e r ih =>
    obtain ⟨n, hn, hf, hr⟩ := mt_cons.1 h
    obtain ⟨m, hm, h1, h2⟩ := ih hr
    rw [List.length_drop] at hm
    refine ⟨n + m, by omega, mt_cons.2 ⟨n, by rw [List.length_take]; omega, ?_, ?_⟩, ?_⟩
    · rw [List.take_take, Nat.min_eq_left (by omega)]; exact hf
    · rw [List.drop_take, show n + m - n = m by omega]; exact h1
    · rw [List.drop_drop] at h2; exact h2
/-- A part of a text, between two places. -/
def seg (s : List UInt8) (i j : Nat) : List UInt8 := (s.take j).drop i
theorem seg_len {s : List UInt8} {i j : Nat} (h : j ≤ s.length) : (seg s i j).length = j - i := by
  unfold seg; rw [List.length_drop, List.length_take]; omega
theorem seg_take {s : List UInt8} {i j n : Nat} (h : i + n ≤ j) : (seg s i j).take n = seg s i (i + n) := by
  unfold seg
  rw [List.take_drop, List.take_take, Nat.min_eq_left h]
theorem seg_drop {s : List UInt8} {i j n : Nat} : (seg s i j).drop n = seg s (i + n) j := by
  unfold seg
  rw [List.drop_drop]
theorem seg_nil {s : List UInt8} {i : Nat} : seg s i i = [] := by
  unfold seg
  exact List.drop_eq_nil_of_le (by rw [List.length_take]; omega)
theorem seg_all {s : List UInt8} : seg s 0 s.length = s := by unfold seg; simp
theorem seg_seg {s : List UInt8} {a b i j : Nat} (h : a + j ≤ b) : seg (seg s a b) i j = seg s (a + i) (a + j) := by
  unfold seg
  rw [List.take_drop, List.take_take, Nat.min_eq_left (by omega), List.drop_drop]

/-- The greatest end of a part that begins at i; -1 if there is none. -/
def IsG (p : List Pc) (s : List UInt8) (i : Nat) (v : Int) : Prop :=
  (v = -1 ∧ ∀ j, i ≤ j → j ≤ s.length → mtB p (seg s i j) = false) ∨ ∃ j : Nat, v = j ∧ i ≤ j ∧ j ≤ s.length ∧ mtB p (seg s i j) = true ∧ ∀ k, j < k → k ≤ s.length → mtB p (seg s i k) = false
theorem isG_nil {s : List UInt8} {i : Nat} (h : i ≤ s.length) : IsG [] s i i := by
  refine .inr ⟨i, rfl, Nat.le_refl _, h, by rw [seg_nil]; rfl, fun k h1 h2 => ?_⟩
  have := seg_len (s := s) (i := i) h2
  rw [mtB]
  cases hs : seg s i k with
  | nil => rw [hs] at this; simp at this; omega
  | cons a l => rfl
theorem isG_uniq {p : List Pc} {s : List UInt8} {i : Nat} {v u : Int} (h : IsG p s i v) (g : IsG p s i u) : v = u := by
  rcases h with ⟨rfl, h⟩ | ⟨j, rfl, h1, h2, h3, h4⟩ <;> rcases g with ⟨rfl, g⟩ | ⟨k, rfl, g1, g2, g3, g4⟩
  · rfl
  · rw [h k g1 g2] at g3; cases g3
  · rw [g j h1 h2] at h3; cases h3
  · rcases Nat.lt_trichotomy j k with e | e | e
    · rw [h4 k e g2] at g3; cases g3
    · rw [e]
    · rw [g4 j e h2] at h3; cases h3
/-- The places at which a part that begins at i and fits a piece can end. -/
def endsL (e : Pc) (s : List UInt8) (i : Nat) : List Nat := (List.range (s.length + 1)).filter fun j => decide (i ≤ j) && fits e (seg s i j)
theorem mem_ends {e : Pc} {s : List UInt8} {i j : Nat} : j ∈ endsL e s i ↔ j ≤ s.length ∧ i ≤ j ∧ fits e (seg s i j) = true := by
  unfold endsL
  rw [List.mem_filter, List.mem_range, Bool.and_eq_true, decide_eq_true_eq]
  constructor
  · rintro ⟨a, b, c⟩; exact ⟨by omega, b, c⟩
  · rintro ⟨a, b, c⟩; exact ⟨by omega, b, c⟩
theorem seg_cons {e : Pc} {r : List Pc} {s : List UInt8} {i k : Nat} (hk : k ≤ s.length) : mtB (e :: r) (seg s i k) = true ↔ (k < i ∧ mtB (e :: r) [] = true) ∨ ∃ j, i ≤ j ∧ j ≤ k ∧ fits e (seg s i j) = true ∧ mtB r (seg s j k) = true := by
  by_cases hik : i ≤ k
  · rw [mt_cons, seg_len hk]
    constructor
    · rintro ⟨n, hn, h1, h2⟩
      rw [seg_take (by omega)] at h1
      rw [seg_drop] at h2
      exact .inr ⟨i + n, by omega, by omega, h1, h2⟩
    · rintro (⟨h, -⟩ | ⟨j, h1, h2, h3, h4⟩)
      · omega
      · refine ⟨j - i, by omega, ?_, ?_⟩
        · rw [seg_take (by omega), show i + (j - i) = j by omega]; exact h3
        · rw [seg_drop, show i + (j - i) = j by omega]; exact h4
  · have hs : seg s i k = [] := List.eq_nil_of_length_eq_zero (by rw [seg_len hk]; omega)
    rw [hs]
    constructor
    · intro h; exact .inl ⟨by omega, h⟩
    · rintro (⟨-, h⟩ | ⟨j, h1, h2, -⟩)
      · exact h
      · omega
/-- What the round over the ends has come to. -/
def mxG (f : Nat → Int) (l : List Nat) : Int := l.foldl (fun v j => max v (f j)) (-1)
theorem mx_snoc (f : Nat → Int) (l : List Nat) (j : Nat) : mxG f (l ++ [j]) = max (mxG f l) (f j) := by simp [mxG]
theorem mx_ge (f : Nat → Int) : ∀ (l : List Nat) (v : Int), v ≤ l.foldl (fun v j => max v (f j)) v ∧ (∀ j ∈ l, f j ≤ l.foldl (fun v j => max v (f j)) v) ∧ (l.foldl (fun v j => max v (f j)) v = v ∨ ∃ j ∈ l, l.foldl (fun v j => max v (f j)) v = f j)
  | [], v => ⟨by simp, by simp, .inl rfl⟩
  | a :: l, v => by
    obtain ⟨h1, h2, h3⟩ := mx_ge f l (max v (f a))
    rw [List.foldl_cons]
    refine ⟨by omega, fun j hj => ?_, ?_⟩
    · rcases List.mem_cons.1 hj with rfl | hj
      · omega
      · exact h2 j hj
    · rcases h3 with h3 | ⟨j, hj, h3⟩
      · by_cases h : v ≤ f a
        · exact .inr ⟨a, by simp, by rw [h3]; omega⟩
        · exact .inl (by rw [h3]; omega)
      · exact .inr ⟨j, by simp [hj], h3⟩
theorem isG_cons {e : Pc} {r : List Pc} {s : List UInt8} {i : Nat} (f : Nat → Int) (hf : ∀ j, j ≤ s.length → IsG r s j (f j)) : IsG (e :: r) s i (mxG f (endsL e s i)) := by
  obtain ⟨h1, h2, h3⟩ := mx_ge f (endsL e s i) (-1)
  have no : ∀ (k : Nat), i ≤ k → k ≤ s.length → (mxG f (endsL e s i) < k) → mtB (e :: r) (seg s i k) = false := by
    intro k hik hk hlt
    cases hm : mtB (e :: r) (seg s i k)
    · rfl
    · rcases (seg_cons hk).1 hm with ⟨h, -⟩ | ⟨j, a, b, c, d⟩
      · omega
      · have hj : f j ≤ mxG f (endsL e s i) := h2 j (mem_ends.2 ⟨by omega, a, c⟩)
        rcases hf j (by omega) with ⟨-, g⟩ | ⟨m, g1, g2, g3, g4, g5⟩
        · rw [g k b hk] at d; cases d
        · rw [g5 k (by omega) hk] at d; cases d
  rcases h3 with h3 | ⟨j, hj, h3⟩
  · exact .inl ⟨h3, fun j a b => no j a b (by unfold mxG; rw [h3]; omega)⟩
  · obtain ⟨a, b, c⟩ := mem_ends.1 hj
    rcases hf j a with ⟨g, -⟩ | ⟨m, g1, g2, g3, g4, -⟩
    · have e1 : mxG f (endsL e s i) = -1 := by unfold mxG; rw [h3, g]
      exact .inl ⟨e1, fun j a b => no j a b (by rw [e1]; omega)⟩
    · have e1 : mxG f (endsL e s i) = m := by unfold mxG; rw [h3, g1]
      refine .inr ⟨m, e1, by omega, g3, (seg_cons g3).2 (.inr ⟨j, b, g2, c, g4⟩), fun k hk hk2 => no k (by omega) hk2 (by rw [e1]; omega)⟩
/-- All that is matched. -/
theorem isG_full {p : List Pc} {s : List UInt8} {v : Int} (h : IsG p s 0 v) : (v == (s.length : Int)) = mtB p s := by
  have e : seg s 0 s.length = s := seg_all
  rcases h with ⟨rfl, h⟩ | ⟨j, rfl, h1, h2, h3, h4⟩
  · have := h s.length (Nat.zero_le _) (Nat.le_refl _)
    rw [e] at this
    rw [this, beq_eq_false_iff_ne]
    omega
  · by_cases hj : j = s.length
    · subst hj
      rw [e] at h3
      rw [h3]; simp
    · have := h4 s.length (by omega) (Nat.le_refl _)
      rw [e] at this
      rw [this, beq_eq_false_iff_ne]
      omega
end Go.Proofs.YtgnjakaamgeibaaDoor
