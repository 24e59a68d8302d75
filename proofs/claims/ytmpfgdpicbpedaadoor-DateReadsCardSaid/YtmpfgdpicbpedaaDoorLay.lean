/-
  Layouts: plain lists of bytes. Nothing of the program is imported. Conditions: none.
-/
import Derived.Test.YtmpfgdpicbpedaaDoorCal
namespace Go.Proofs.YtmpfgdpicbpedaaDoor

/-! ### Parts of a layout -/
def fY : List UInt8 := [89, 89, 89, 89]
def fMM : List UInt8 := [77, 77]
def fM : List UInt8 := [77]
def fDD : List UInt8 := [68, 68]
def fD : List UInt8 := [68]
def isF (t : List UInt8) : Bool := t == fY || t == fMM || t == fM || t == fDD || t == fD
/-- The first part of a layout. -/
def fst (l : List UInt8) : List UInt8 :=
  if fY.isPrefixOf l then fY else if fMM.isPrefixOf l then fMM else if fM.isPrefixOf l then fM else if fDD.isPrefixOf l then fDD else if fD.isPrefixOf l then fD else l.take 1
def partsF : Nat → List UInt8 → List (List UInt8)
  | 0, _ => []
  | f + 1, l => if l = [] then [] else fst l :: partsF f (l.drop (fst l).length)
def parts (l : List UInt8) : List (List UInt8) := partsF l.length l

theorem pre_of {p l : List UInt8} (h : p.isPrefixOf l = true) : p ++ l.drop p.length = l := by
  obtain ⟨r, rfl⟩ := List.isPrefixOf_iff_prefix.1 h
  simp
theorem fst_pre (l : List UInt8) : fst l ++ l.drop (fst l).length = l := by
  unfold fst
  split
  · exact pre_of (by assumption)
  split
  · exact pre_of (by assumption)
  split
  · exact pre_of (by assumption)
  split
  · exact pre_of (by assumption)
  split
  · exact pre_of (by assumption)
  · cases l with
    | nil => rfl
    | cons a l => rfl
/-- Each part is a field, or one byte that begins none. -/
inductive Form (t : List UInt8) : Prop
  | field (h : isF t = true)
  | one (c : UInt8) (h : t = [c]) (h1 : c ≠ 77) (h2 : c ≠ 68)
theorem fst_form {l : List UInt8} (h : l ≠ []) : Form (fst l) := by
  unfold fst
  split
  · exact .field rfl
  split
  · exact .field rfl
  split
  · exact .field rfl
  split
  · exact .field rfl
  split
  · exact .field rfl
  · rename_i h1 h2 h3 h4 h5
    cases l with
    | nil => exact absurd rfl h
    | cons a l =>
      refine .one a rfl (fun e => ?_) (fun e => ?_)
      · subst e; exact h3 rfl
      · subst e; exact h5 rfl
theorem Form.pos {t : List UInt8} (h : Form t) : 1 ≤ t.length ∧ t.length ≤ 4 := by
  cases h with
  | field h =>
    simp only [isF, Bool.or_eq_true, beq_iff_eq] at h
    rcases h with (((h | h) | h) | h) | h <;> subst h <;> decide
  | one c h => subst h; simp
theorem fst_len {l : List UInt8} (h : l ≠ []) : 1 ≤ (fst l).length ∧ (fst l).length ≤ l.length := by
  refine ⟨(fst_form h).pos.1, ?_⟩
  have := congrArg List.length (fst_pre l)
  rw [List.length_append] at this
  omega
theorem partsF_fuel : ∀ (f g : Nat) (l : List UInt8), l.length ≤ f → l.length ≤ g → partsF f l = partsF g l := by
  intro f
  induction f with
  | zero =>
    intro g l hf _
    have : l = [] := List.eq_nil_of_length_eq_zero (by omega)
    subst this
    cases g with
    | zero => rfl
    | succ g => rfl
  | succ f ih =>
    intro g l hf hg
    cases g with
    | zero =>
      have : l = [] := List.eq_nil_of_length_eq_zero (by omega)
      subst this
      rfl
    | succ g =>
      rw [partsF, partsF]
      split
      · rfl
      · rename_i h
        have := fst_len h
        rw [ih g _ (by simp; omega) (by simp; omega)]
theorem parts_nil : parts [] = [] := rfl
theorem parts_cons {l : List UInt8} (h : l ≠ []) : parts l = fst l :: parts (l.drop (fst l).length) := by
  have hp := fst_len h
  unfold parts
  obtain ⟨f, hf⟩ : ∃ f, l.length = f + 1 := ⟨l.length - 1, by omega⟩
  rw [hf, partsF, if_neg h, partsF_fuel f (l.drop (fst l).length).length _ (by simp; omega) (Nat.le_refl _)]
theorem parts_ind {P : List UInt8 → Prop} (h0 : P []) (h1 : ∀ l, l ≠ [] → P (l.drop (fst l).length) → P l) (l : List UInt8) : P l := by
  have : ∀ n l, l.length ≤ n → P l := by
    intro n
    induction n with
    | zero =>
      intro l hl
      have : l = [] := List.eq_nil_of_length_eq_zero (by omega)
      subst this
      exact h0
    | succ n ih =>
      intro l hl
      by_cases h : l = []
      · subst h; exact h0
      · have := fst_len h
        exact h1 l h (ih _ (by simp; omega))
  exact this l.length l (Nat.le_refl _)
theorem parts_form (l : List UInt8) : ∀ t ∈ parts l, Form t := by
  refine parts_ind (P := fun l => ∀ t ∈ parts l, Form t) (by intro t h; cases h) (fun l h ih t ht => ?_) l
  rw [parts_cons h] at ht
  rcases List.mem_cons.1 ht with rfl | ht
  · exact fst_form h
  · exact ih t ht
theorem parts_flat (l : List UInt8) : (parts l).flatten = l := by
  refine parts_ind (P := fun l => (parts l).flatten = l) rfl (fun l h ih => ?_) l
  rw [parts_cons h, List.flatten_cons, ih, fst_pre]
theorem parts_len (l : List UInt8) : (parts l).length ≤ l.length := by
  refine parts_ind (P := fun l => (parts l).length ≤ l.length) (Nat.le_refl _) (fun l h ih => ?_) l
  have := fst_len h
  rw [parts_cons h, List.length_cons]
  rw [List.length_drop] at ih
  omega

/-! ### Right layouts -/
def plainB (c : UInt8) : Bool := decide (32 ≤ c.toNat ∧ c.toNat ≤ 126) && !decide (48 ≤ c.toNat ∧ c.toNat ≤ 57) && !(c == 89) && !(c == 77) && !(c == 68)
def chB (c : UInt8) : Bool := decide (32 ≤ c.toNat ∧ c.toNat ≤ 126) && !decide (48 ≤ c.toNat ∧ c.toNat ≤ 57)
def shB (t : List UInt8) : Bool := t == fM || t == fD
/-- May a part follow. -/
def okT (s : Bool) (t : List UInt8) : Bool := !(isF t && s || !isF t && !plainB (t.headD 0))
def okP : Bool → List (List UInt8) → Bool
  | _, [] => true
  | s, t :: r => okT s t && okP (isF t && t.length == 1) r
def kind (c : UInt8) (t : List UInt8) : Bool := isF t && t.headD 0 == c
def cnt (c : UInt8) (ps : List (List UInt8)) : Nat := (ps.filter (kind c)).length
def rightB (l : List UInt8) : Bool := decide (l.length ≤ 40) && okP false (parts l) && (cnt 89 (parts l) == 1 && cnt 77 (parts l) == 1 && cnt 68 (parts l) == 1)

/-- The reference's way to say it. -/
def okR : Bool → List (List UInt8) → Bool
  | _, [] => true
  | s, t :: r => !(t == [89]) && !(s && isF t) && okR (shB t) r
theorem isF_short (t : List UInt8) : (isF t && t.length == 1) = shB t := by
  unfold shB
  by_cases h : isF t = true
  · have h' := h
    simp only [isF, Bool.or_eq_true, beq_iff_eq] at h
    rcases h with (((h | h) | h) | h) | h <;> subst h <;> rfl
  · have hb : isF t = false := by simpa using h
    rw [hb, Bool.false_and]
    simp only [isF, Bool.or_eq_false_iff] at hb
    rw [hb.1.1.2, hb.2]
    rfl
theorem one_notF {c : UInt8} (h1 : c ≠ 77) (h2 : c ≠ 68) : isF [c] = false := by
  simp [isF, fY, fMM, fM, fDD, fD, h1, h2]
theorem plain_ch (c : UInt8) (h1 : c ≠ 77) (h2 : c ≠ 68) : plainB c = (chB c && !(c == 89)) := by
  have e1 : (c == 77) = false := by simpa using h1
  have e2 : (c == 68) = false := by simpa using h2
  unfold plainB chB
  rw [e1, e2]
  simp
theorem field_ch {t : List UInt8} (h : isF t = true) : t.all chB = true := by
  simp only [isF, Bool.or_eq_true, beq_iff_eq] at h
  rcases h with (((h | h) | h) | h) | h <;> subst h <;> decide
theorem field_ne {t : List UInt8} (h : isF t = true) : (t == [89]) = false := by
  simp only [isF, Bool.or_eq_true, beq_iff_eq] at h
  rcases h with (((h | h) | h) | h) | h <;> subst h <;> decide
theorem ok_ref : ∀ (ps : List (List UInt8)) (s : Bool), (∀ t ∈ ps, Form t) → okP s ps = (ps.flatten.all chB && okR s ps)
  | [], s, _ => rfl
  | t :: r, s, h => by
    have ih := ok_ref r (shB t) (fun x hx => h x (by simp [hx]))
    rw [okP, okR, List.flatten_cons, List.all_append, isF_short, ih]
    cases h t (by simp) with
    | field hf =>
      rw [field_ch hf, field_ne hf]
      unfold okT
      rw [hf]
      cases s <;> cases r.flatten.all chB <;> simp
    | one c hc h1 h2 =>
      subst hc
      have hn := one_notF h1 h2
      unfold okT
      rw [hn]
      simp only [List.headD_cons, plain_ch c h1 h2, List.all_cons, List.all_nil]
      have e : ([c] == [(89 : UInt8)]) = (c == 89) := by simp
      rw [e]
      cases chB c <;> cases (c == 89) <;> cases s <;> cases r.flatten.all chB <;> simp
theorem right_ref (l : List UInt8) : rightB l = (decide (l.length ≤ 40) && (l.all chB && okR false (parts l)) && (cnt 89 (parts l) == 1 && cnt 77 (parts l) == 1 && cnt 68 (parts l) == 1)) := by
  unfold rightB
  rw [ok_ref _ _ (parts_form l), parts_flat]
end Go.Proofs.YtmpfgdpicbpedaaDoor
