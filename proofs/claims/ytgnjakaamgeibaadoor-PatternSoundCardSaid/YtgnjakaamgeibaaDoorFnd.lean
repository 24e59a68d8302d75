/-
  Finds, and what covers what: plain lists. Nothing of the program is imported. Conditions: none.
-/
import Derived.Test.YtgnjakaamgeibaaDoorPat
namespace Go.Proofs.YtgnjakaamgeibaaDoor

/-! ### The greatest end as a function -/
def gEnd (p : List Pc) (s : List UInt8) (i : Nat) : Int := mxG (fun j => (j : Int)) ((List.range (s.length + 1)).filter fun j => decide (i ≤ j) && mtB p (seg s i j))
theorem gEnd_isG (p : List Pc) (s : List UInt8) (i : Nat) : IsG p s i (gEnd p s i) := by
  obtain ⟨h1, h2, h3⟩ := mx_ge (fun j => (j : Int)) ((List.range (s.length + 1)).filter fun j => decide (i ≤ j) && mtB p (seg s i j)) (-1)
  have key : ∀ k, i ≤ k → k ≤ s.length → mtB p (seg s i k) = true → (k : Int) ≤ gEnd p s i := by
    intro k a b c
    exact h2 k (List.mem_filter.2 ⟨List.mem_range.2 (by omega), by rw [decide_eq_true a, c]; rfl⟩)
  have no : ∀ k : Nat, i ≤ k → k ≤ s.length → gEnd p s i < k → mtB p (seg s i k) = false := by
    intro k a b c
    cases hm : mtB p (seg s i k)
    · rfl
    · have := key k a b hm; omega
  rcases h3 with h3 | ⟨j, hj, h3⟩
  · have e : gEnd p s i = -1 := h3
    exact .inl ⟨e, fun j a b => no j a b (by rw [e]; omega)⟩
  · have e : gEnd p s i = j := h3
    obtain ⟨hr, hb⟩ := List.mem_filter.1 hj
    rw [Bool.and_eq_true, decide_eq_true_eq] at hb
    have := List.mem_range.1 hr
    exact .inr ⟨j, e, hb.1, by omega, hb.2, fun k a b => no k (by omega) b (by rw [e]; omega)⟩
theorem gEnd_of {p : List Pc} {s : List UInt8} {i : Nat} {v : Int} (h : IsG p s i v) : v = gEnd p s i := isG_uniq h (gEnd_isG p s i)
theorem gEnd_le (p : List Pc) (s : List UInt8) (i : Nat) : -1 ≤ gEnd p s i ∧ gEnd p s i ≤ s.length := by
  rcases gEnd_isG p s i with ⟨h, -⟩ | ⟨j, h, h1, h2, -⟩ <;> omega

/-! ### Finds -/
def fnd (p : List Pc) (s : List UInt8) : Nat → Nat → List (Nat × Nat)
  | 0, _ => []
  | f + 1, at' => if at' < s.length then (if gEnd p s at' ≤ at' then fnd p s f (at' + 1) else (at', (gEnd p s at').toNat) :: fnd p s f (gEnd p s at').toNat) else []
def findsL (p : List Pc) (s : List UInt8) : List (Nat × Nat) := if rightB p && textB s then fnd p s (s.length + 1) 0 else []
/-- The finds from a place on. -/
def fndA (p : List Pc) (s : List UInt8) (i : Nat) : List (Nat × Nat) := fnd p s (s.length + 1 - i) i
theorem fnd_fuel (p : List Pc) (s : List UInt8) : ∀ (f g i : Nat), s.length + 1 - i ≤ f → s.length + 1 - i ≤ g → fnd p s f i = fnd p s g i
  | 0, g, i, hf, hg => by
    cases g with
    | zero => rfl
    | succ g => rw [fnd, fnd, if_neg (by omega)]
  | f + 1, 0, i, hf, hg => by rw [fnd, fnd, if_neg (by omega)]
  | f + 1, g + 1, i, hf, hg => by
    rw [fnd, fnd]
    split
    · split
      · exact fnd_fuel p s f g (i + 1) (by omega) (by omega)
      · rw [fnd_fuel p s f g _ (by omega) (by omega)]
    · rfl
theorem fndA_end {p : List Pc} {s : List UInt8} {i : Nat} (h : s.length ≤ i) : fndA p s i = [] := by
  unfold fndA
  cases hf : s.length + 1 - i with
  | zero => rfl
  | succ f => rw [fnd, if_neg (by omega)]
theorem fndA_no {p : List Pc} {s : List UInt8} {i : Nat} (h : i < s.length) (hg : gEnd p s i ≤ i) : fndA p s i = fndA p s (i + 1) := by
  unfold fndA
  rw [show s.length + 1 - i = (s.length + 1 - (i + 1)) + 1 by omega, fnd, if_pos h, if_pos hg]
theorem fndA_yes {p : List Pc} {s : List UInt8} {i : Nat} (h : i < s.length) (hg : (i : Int) < gEnd p s i) : fndA p s i = (i, (gEnd p s i).toNat) :: fndA p s (gEnd p s i).toNat := by
  unfold fndA
  rw [show s.length + 1 - i = (s.length - i) + 1 by omega, fnd, if_pos h, if_neg (by omega), fnd_fuel p s (s.length - i) (s.length + 1 - (gEnd p s i).toNat) _ (by omega) (by omega)]
theorem findsL_eq (p : List Pc) (s : List UInt8) : findsL p s = if rightB p && textB s then fndA p s 0 else [] := rfl

/-- What the law says of finds: from the place `last` on. -/
def SpOk (p : List Pc) (s : List UInt8) : Nat → List (Nat × Nat) → Prop
  | last, [] => ∀ i j, last ≤ i → i < j → j ≤ s.length → mtB p (seg s i j) = false
  | last, (a, b) :: r => last ≤ a ∧ a < b ∧ b ≤ s.length ∧ mtB p (seg s a b) = true ∧ (∀ i j, last ≤ i → i < a → i < j → j ≤ s.length → mtB p (seg s i j) = false) ∧ (∀ j, b < j → j ≤ s.length → mtB p (seg s a j) = false) ∧ SpOk p s b r
theorem spOk_weak {p : List Pc} {s : List UInt8} {i : Nat} (h : ∀ j, i < j → j ≤ s.length → mtB p (seg s i j) = false) : ∀ {l : List (Nat × Nat)}, SpOk p s (i + 1) l → SpOk p s i l
  | [], hl => fun a b h1 h2 h3 => by
    by_cases e : a = i
    · subst e; exact h b h2 h3
    · exact hl a b (by omega) h2 h3
  | (a, b) :: r, ⟨h1, h2, h3, h4, h5, h6, h7⟩ => ⟨by omega, h2, h3, h4, fun k j g1 g2 g3 g4 => by
      by_cases e : k = i
      · subst e; exact h j g3 g4
      · exact h5 k j (by omega) g2 g3 g4, h6, h7⟩
theorem fndA_ok (p : List Pc) (s : List UInt8) : ∀ (n i : Nat), s.length - i ≤ n → SpOk p s i (fndA p s i)
  | 0, i, h => by
    rw [fndA_end (by omega)]
    intro a b h1 h2 h3
    omega
  | n + 1, i, h => by
    by_cases hi : i < s.length
    · by_cases hg : gEnd p s i ≤ i
      · rw [fndA_no hi hg]
        refine spOk_weak (fun j h1 h2 => ?_) (fndA_ok p s n (i + 1) (by omega))
        rcases gEnd_isG p s i with ⟨-, h⟩ | ⟨k, e, -, -, -, h⟩
        · exact h j (by omega) h2
        · exact h j (by omega) h2
      · rw [fndA_yes hi (by omega)]
        rcases gEnd_isG p s i with ⟨e, -⟩ | ⟨k, e, h1, h2, h3, h4⟩
        · omega
        · rw [e, Int.toNat_natCast]
          exact ⟨Nat.le_refl _, by omega, h2, h3, fun a b g1 g2 g3 g4 => by omega, h4, fndA_ok p s n k (by omega)⟩
    · rw [fndA_end (by omega)]
      intro a b h1 h2 h3
      omega
theorem spOk_len {p : List Pc} {s : List UInt8} : ∀ {l : List (Nat × Nat)} {i : Nat}, SpOk p s i l → l = [] ∨ i + l.length ≤ s.length
  | [], _, _ => .inl rfl
  | (a, b) :: r, i, ⟨h1, h2, h3, h4, h5, h6, h7⟩ => by
    right
    rw [List.length_cons]
    rcases spOk_len h7 with rfl | h
    · simp; omega
    · omega

/-! ### What the reference keeps: the places that a part can end at -/
def reachB (p : List Pc) (s : List UInt8) (i k : Nat) : Bool := decide (i ≤ k) && mtB p (seg s i k)
theorem reach_nil {s : List UInt8} {i k : Nat} (hk : k ≤ s.length) : reachB [] s i k = decide (k = i) := by
  unfold reachB
  rw [Bool.eq_iff_iff, Bool.and_eq_true, decide_eq_true_eq, decide_eq_true_eq, mtB, List.isEmpty_iff]
  constructor
  · rintro ⟨h1, h2⟩
    have := seg_len (s := s) (i := i) hk
    rw [h2] at this
    simp at this
    omega
  · rintro rfl
    exact ⟨Nat.le_refl _, seg_nil⟩
theorem mt_one {e : Pc} {t : List UInt8} : mtB [e] t = fits e t := by
  rw [Bool.eq_iff_iff, mt_cons]
  constructor
  · rintro ⟨n, hn, h1, h2⟩
    rw [mtB, List.isEmpty_iff] at h2
    have := congrArg List.length h2
    rw [List.length_drop, List.length_nil] at this
    rw [List.take_of_length_le (by omega)] at h1
    exact h1
  · intro h
    exact ⟨t.length, Nat.le_refl _, by rw [List.take_length]; exact h, by simp [mtB]⟩
theorem reach_snoc {p : List Pc} {e : Pc} {s : List UInt8} {i m : Nat} (hm : m ≤ s.length) : reachB (p ++ [e]) s i m = true ↔ ∃ k, k ≤ m ∧ reachB p s i k = true ∧ fits e (seg s k m) = true := by
  unfold reachB
  rw [Bool.and_eq_true, decide_eq_true_eq]
  constructor
  · rintro ⟨h1, h2⟩
    obtain ⟨n, hn, h3, h4⟩ := mt_split h2
    rw [seg_len hm] at hn
    rw [seg_take (by omega)] at h3
    rw [seg_drop, mt_one] at h4
    exact ⟨i + n, by omega, by rw [Bool.and_eq_true, decide_eq_true_eq]; exact ⟨by omega, h3⟩, h4⟩
  · rintro ⟨k, h1, h2, h3⟩
    rw [Bool.and_eq_true, decide_eq_true_eq] at h2
    refine ⟨by omega, ?_⟩
    have := mt_app h2.2 (mt_one (e := e) ▸ h3 : mtB [e] (seg s k m) = true)
    have e1 : seg s i k ++ seg s k m = seg s i m := by
      have h4 : (seg s i m).take (k - i) = seg s i k := by rw [seg_take (by omega), show i + (k - i) = k by omega]
      have h5 : (seg s i m).drop (k - i) = seg s k m := by rw [seg_drop, show i + (k - i) = k by omega]
      rw [← h4, ← h5, List.take_append_drop]
    rw [e1] at this
    exact this

/-! ### Covers -/
def covP (a b : Pc) : Bool :=
  if a.cls = 0 then decide (b.cls = 0) && (a.t == b.t)
  else if b.cls = 0 then consB b.t a.cls && decide (a.lo ≤ (b.t.length : Int)) && decide ((b.t.length : Int) ≤ a.hi)
  else insB b.cls a.cls && decide (a.lo ≤ b.lo) && decide (b.hi ≤ a.hi)
def covE : List Pc → List Pc → Bool
  | [], [] => true
  | a :: p, b :: q => covP a b && covE p q
  | _, _ => false
def leastP (b : Pc) : Int := if b.cls = 0 then (b.t.length : Int) else b.lo
def mostP (b : Pc) : Int := if b.cls = 0 then (b.t.length : Int) else b.hi
def belB (b : Pc) (k : Int) : Bool := if b.cls = 0 then consB b.t k else insB b.cls k
def sumL (f : Pc → Int) (q : List Pc) : Int := q.foldl (fun v b => v + f b) 0
def covA (p q : List Pc) : Bool :=
  match p with
  | [a] => if a.cls = 0 then false else q.all (fun b => belB b a.cls) && (decide (a.lo ≤ sumL leastP q) && decide (min 200 (sumL mostP q) ≤ a.hi))
  | _ => false
def coversB (p q : List Pc) : Bool := rightB p && rightB q && (covE p q || covA p q)

theorem ins_trans {a b c : Int} (h1 : insB a b = true) (h2 : insB b c = true) : insB a c = true := by
  unfold insB at *
  simp only [Bool.or_eq_true, Bool.and_eq_true, beq_iff_eq] at *
  omega
theorem cons_mono {l : List UInt8} {a b : Int} (h : insB a b = true) (hl : consB l a = true) : consB l b = true := by
  unfold consB at *
  rw [List.all_eq_true] at *
  exact fun c hc => ins_trans (hl c hc) h
theorem fits_len {e : Pc} {t : List UInt8} (h : fits e t = true) : leastP e ≤ (t.length : Int) ∧ (t.length : Int) ≤ mostP e := by
  unfold fits at h
  unfold leastP mostP
  by_cases hc : e.cls = 0
  · rw [if_pos hc, beq_iff_eq] at h
    rw [if_pos hc, if_pos hc, h]
    exact ⟨Int.le_refl _, Int.le_refl _⟩
  · rw [if_neg hc] at h ⊢
    rw [if_neg hc]
    simp only [Bool.and_eq_true, decide_eq_true_eq] at h
    exact h.1
theorem fits_bel {e : Pc} {t : List UInt8} {k : Int} (h : fits e t = true) (hb : belB e k = true) : consB t k = true := by
  unfold fits at h
  unfold belB at hb
  by_cases hc : e.cls = 0
  · rw [if_pos hc, beq_iff_eq] at h
    rw [if_pos hc] at hb
    rw [h]; exact hb
  · rw [if_neg hc] at h hb
    simp only [Bool.and_eq_true, decide_eq_true_eq] at h
    exact cons_mono hb h.2
theorem cov_fits {a b : Pc} {t : List UInt8} (h : covP a b = true) (hb : fits b t = true) : fits a t = true := by
  have hl := fits_len hb
  unfold covP at h
  unfold leastP mostP at hl
  by_cases ha : a.cls = 0
  · rw [if_pos ha, Bool.and_eq_true, decide_eq_true_eq, beq_iff_eq] at h
    unfold fits at hb ⊢
    rw [if_pos ha]
    rw [if_pos h.1] at hb
    rw [h.2]; exact hb
  · rw [if_neg ha] at h
    by_cases hbc : b.cls = 0
    · rw [if_pos hbc] at h hl
      rw [if_pos hbc] at hl
      simp only [Bool.and_eq_true, decide_eq_true_eq] at h
      unfold fits at hb ⊢
      rw [if_neg ha]
      rw [if_pos hbc, beq_iff_eq] at hb
      rw [hb]
      simp only [Bool.and_eq_true, decide_eq_true_eq]
      exact ⟨⟨h.1.2, h.2⟩, h.1.1⟩
    · rw [if_neg hbc] at h hl
      rw [if_neg hbc] at hl
      simp only [Bool.and_eq_true, decide_eq_true_eq] at h
      have hcons := fits_bel (k := a.cls) hb (by unfold belB; rw [if_neg hbc]; exact h.1.1)
      unfold fits
      rw [if_neg ha]
      simp only [Bool.and_eq_true, decide_eq_true_eq]
      exact ⟨⟨by omega, by omega⟩, hcons⟩
theorem covE_mt : ∀ {p q : List Pc} {t : List UInt8}, covE p q = true → mtB q t = true → mtB p t = true
  | [], [], _, _, h => h
  | a :: p, b :: q, t, h, hm => by
    rw [covE, Bool.and_eq_true] at h
    obtain ⟨n, hn, h1, h2⟩ := mt_cons.1 hm
    exact mt_cons.2 ⟨n, hn, cov_fits h.1 h1, covE_mt h.2 h2⟩
  | [], _ :: _, _, h, _ => by cases h
  | _ :: _, [], _, h, _ => by cases h
theorem sum_cons (f : Pc → Int) (b : Pc) (q : List Pc) : sumL f (b :: q) = f b + sumL f q := by
  have key : ∀ (q : List Pc) (v : Int), q.foldl (fun v b => v + f b) v = v + q.foldl (fun v b => v + f b) 0 := by
    intro q
    induction q with
    | nil => intro v; simp
    | cons a q ih => intro v; rw [List.foldl_cons, List.foldl_cons, ih (v + f a), ih (0 + f a)]; omega
  unfold sumL
  rw [List.foldl_cons, key]
  omega
theorem sum_snoc (f : Pc → Int) (b : Pc) (q : List Pc) : sumL f (q ++ [b]) = sumL f q + f b := by simp [sumL]
theorem mt_sum : ∀ {q : List Pc} {t : List UInt8} {k : Int}, mtB q t = true → q.all (fun b => belB b k) = true → sumL leastP q ≤ (t.length : Int) ∧ (t.length : Int) ≤ sumL mostP q ∧ consB t k = true
  | [], t, k, h, _ => by
    rw [mtB, List.isEmpty_iff] at h
    subst h
    exact ⟨Int.le_refl _, Int.le_refl _, rfl⟩
  | b :: q, t, k, h, hb => by
    rw [List.all_cons, Bool.and_eq_true] at hb
    obtain ⟨n, hn, h1, h2⟩ := mt_cons.1 h
    obtain ⟨g1, g2, g3⟩ := mt_sum h2 hb.2
    obtain ⟨l1, l2⟩ := fits_len h1
    have hc := fits_bel h1 hb.1
    rw [List.length_take, Nat.min_eq_left hn] at l1 l2
    rw [List.length_drop] at g1 g2
    rw [sum_cons, sum_cons]
    refine ⟨by omega, by omega, ?_⟩
    have : consB (t.take n ++ t.drop n) k = true := by
      unfold consB at *
      rw [List.all_append, hc, g3]
      rfl
    rw [List.take_append_drop] at this
    exact this
theorem covA_mt {p q : List Pc} {t : List UInt8} (h : covA p q = true) (hm : mtB q t = true) (ht : t.length ≤ 200) : mtB p t = true := by
  match p, h with
  | [a], h =>
    unfold covA at h
    by_cases ha : a.cls = 0
    · simp only [if_pos ha] at h; cases h
    · simp only [if_neg ha, Bool.and_eq_true, decide_eq_true_eq] at h
      obtain ⟨g1, g2, g3⟩ := mt_sum hm h.1
      rw [mt_one]
      unfold fits
      rw [if_neg ha]
      simp only [Bool.and_eq_true, decide_eq_true_eq]
      exact ⟨⟨by omega, by omega⟩, g3⟩
def matchB (p : List Pc) (s : List UInt8) : Bool := rightB p && textB s && mtB p s
/-- Whatever q matches, p matches. -/
theorem covers_sound {p q : List Pc} {s : List UInt8} (h : coversB p q = true) (hm : matchB q s = true) : matchB p s = true := by
  unfold coversB at h
  unfold matchB at hm ⊢
  simp only [Bool.and_eq_true, Bool.or_eq_true] at h hm ⊢
  have ht : s.length ≤ 200 := by
    have := hm.1.2
    unfold textB at this
    rw [Bool.and_eq_true, decide_eq_true_eq] at this
    exact this.1
  refine ⟨⟨h.1.1, hm.1.2⟩, ?_⟩
  rcases h.2 with h2 | h2
  · exact covE_mt h2 hm.2
  · exact covA_mt h2 hm.2 ht
theorem ins_self (k : Int) : insB k k = true := by simp [insB]
theorem covP_self {a : Pc} (_h : pieceB a = true) : covP a a = true := by
  unfold covP
  by_cases ha : a.cls = 0
  · rw [if_pos ha, decide_eq_true ha]; simp
  · rw [if_neg ha, if_neg ha, ins_self]; simp
theorem covE_self : ∀ {p : List Pc}, (∀ a ∈ p, pieceB a = true) → covE p p = true
  | [], _ => rfl
  | a :: p, h => by rw [covE, covP_self (h a (by simp)), covE_self (fun x hx => h x (by simp [hx]))]; rfl
theorem covers_self (p : List Pc) : coversB p p = rightB p := by
  unfold coversB
  cases h : rightB p
  · rfl
  · rw [covE_self (right_mem h)]; rfl
end Go.Proofs.YtgnjakaamgeibaaDoor
