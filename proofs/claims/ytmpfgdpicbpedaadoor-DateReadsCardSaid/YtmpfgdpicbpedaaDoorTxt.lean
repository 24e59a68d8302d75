/-
  Dates written with a layout, and read again: plain lists of bytes. Nothing of the program is imported. Conditions: none.
-/
import Derived.Test.YtmpfgdpicbpedaaDoorLay
namespace Go.Proofs.YtmpfgdpicbpedaaDoor

def dig (n : Nat) : UInt8 := UInt8.ofNat (48 + n % 10)
/-- A number with at least so many digits. -/
def pad (n k : Nat) : List UInt8 := if n = 0 ∧ k = 0 then [] else pad (n / 10) (k - 1) ++ [dig n]
termination_by n + k
decreasing_by omega

theorem dig_nat (n : Nat) : (dig n).toNat = 48 + n % 10 := by
  unfold dig
  rw [UInt8.toNat_ofNat']
  omega
theorem pad_zero : pad 0 0 = [] := by rw [pad, if_pos ⟨rfl, rfl⟩]
theorem pad_step (n k : Nat) (h : ¬ (n = 0 ∧ k = 0)) : pad n k = pad (n / 10) (k - 1) ++ [dig n] := by rw [pad, if_neg h]
theorem pad_four (n : Nat) (h : n < 10000) : pad n 4 = [dig (n / 10 / 10 / 10), dig (n / 10 / 10), dig (n / 10), dig n] := by
  rw [pad_step n 4 (by omega), pad_step (n / 10) 3 (by omega), pad_step (n / 10 / 10) 2 (by omega), pad_step (n / 10 / 10 / 10) 1 (by omega)]
  rw [show n / 10 / 10 / 10 / 10 = 0 by omega, pad_zero]
  rfl
theorem pad_two (n : Nat) (h : n < 100) : pad n 2 = [dig (n / 10), dig n] := by
  rw [pad_step n 2 (by omega), pad_step (n / 10) 1 (by omega)]
  rw [show n / 10 / 10 = 0 by omega, pad_zero]
  rfl
theorem pad_one (n : Nat) (h : n < 100) : pad n 1 = if n < 10 then [dig n] else [dig (n / 10), dig n] := by
  rw [pad_step n 1 (by omega)]
  split
  · rw [show n / 10 = 0 by omega, pad_zero]
    rfl
  · rw [pad_step (n / 10) 0 (by omega), show n / 10 / 10 = 0 by omega, pad_zero]
    rfl

/-- A part of a layout, written. -/
def fmtP (y m d : Nat) (t : List UInt8) : List UInt8 :=
  if t = fY then pad y 4 else if t = fMM then pad m 2 else if t = fM then pad m 1 else if t = fDD then pad d 2 else if t = fD then pad d 1 else t
def fmtL (y m d : Nat) (l : List UInt8) : List UInt8 := (parts l).flatMap (fmtP y m d)

/-! ### Digits that are read -/
def digB (c : UInt8) : Bool := decide (48 ≤ c.toNat ∧ c.toNat ≤ 57)
def val (l : List UInt8) : Nat := l.foldl (fun v c => v * 10 + (c.toNat - 48)) 0
def dgs (l : List UInt8) (k : Nat) : List UInt8 := (l.take k).takeWhile digB
theorem digB_dig (n : Nat) : digB (dig n) = true := by
  unfold digB
  rw [dig_nat, decide_eq_true_iff]
  omega
theorem val_four (n : Nat) (h : n < 10000) : val (pad n 4) = n := by
  rw [pad_four n h]
  simp only [val, List.foldl_cons, List.foldl_nil, dig_nat]
  omega
theorem val_two (n : Nat) (h : n < 100) : val (pad n 2) = n := by
  rw [pad_two n h]
  simp only [val, List.foldl_cons, List.foldl_nil, dig_nat]
  omega
theorem val_one (n : Nat) (h : n < 100) : val (pad n 1) = n := by
  rw [pad_one n h]
  split
  · simp only [val, List.foldl_cons, List.foldl_nil, dig_nat]
    omega
  · simp only [val, List.foldl_cons, List.foldl_nil, dig_nat]
    omega
theorem dgs_four (n : Nat) (h : n < 10000) (r : List UInt8) : dgs (pad n 4 ++ r) 4 = pad n 4 := by
  rw [pad_four n h]
  simp [dgs, digB_dig]
theorem dgs_two (n : Nat) (h : n < 100) (r : List UInt8) : dgs (pad n 2 ++ r) 2 = pad n 2 := by
  rw [pad_two n h]
  simp [dgs, digB_dig]
/-- What follows is no digit. -/
def Stop (r : List UInt8) : Prop := r = [] ∨ ∃ c t, r = c :: t ∧ digB c = false
theorem dgs_one (n : Nat) (h : n < 100) (r : List UInt8) (hr : Stop r) : dgs (pad n 1 ++ r) 2 = pad n 1 := by
  rw [pad_one n h]
  split
  · rcases hr with rfl | ⟨c, t, rfl, hc⟩
    · simp [dgs, digB_dig]
    · simp [dgs, digB_dig, hc]
  · simp [dgs, digB_dig]

/-! ### Reading -/
abbrev Ymd := Nat × Nat × Nat
/-- A field's value is noted. -/
def setV (v : Ymd) (t : List UInt8) (x : Nat) : Ymd := if t.headD 0 = 89 then (x, v.2.1, v.2.2) else if t.headD 0 = 77 then (v.1, x, v.2.2) else (v.1, v.2.1, x)
def rd : List (List UInt8) → List UInt8 → Ymd → Option Ymd
  | [], _, v => some v
  | t :: ps, r, v => if isF t = true then rd ps (r.drop (dgs r (max t.length 2)).length) (setV v t (val (dgs r (max t.length 2)))) else if t.isPrefixOf r = true then rd ps (r.drop t.length) v else none
def most (t : List UInt8) : Nat := if t.length = 1 then 2 else t.length
def rr (s : List UInt8) : List (List UInt8) → Nat → Ymd → Option Ymd
  | [], _, v => some v
  | t :: ps, k, v => if isF t = true then (if k > s.length then none else rr s ps (k + (dgs (s.drop k) (most t)).length) (setV v t (val (dgs (s.drop k) (most t))))) else rr s ps (k + 1) v
/-- What is read of a date's text. -/
def upd (y m d : Nat) : List (List UInt8) → Ymd → Ymd
  | [], v => v
  | t :: ps, v => upd y m d ps (if isF t = true then setV v t (if t.headD 0 = 89 then y else if t.headD 0 = 77 then m else d) else v)

theorem field_cases {t : List UInt8} (h : isF t = true) : t = fY ∨ t = fMM ∨ t = fM ∨ t = fDD ∨ t = fD := by
  simp only [isF, Bool.or_eq_true, beq_iff_eq] at h
  rcases h with (((h | h) | h) | h) | h <;> simp [h]
theorem most_max {t : List UInt8} (h : isF t = true) : most t = max t.length 2 := by
  rcases field_cases h with h | h | h | h | h <;> subst h <;> decide

/-- Behind a short field stands no digit. -/
theorem stop_of {ps : List (List UInt8)} (y m d : Nat) (hp : ∀ t ∈ ps, Form t) (h : okP true ps = true) : Stop (ps.flatMap (fmtP y m d)) := by
  cases ps with
  | nil => exact .inl rfl
  | cons t r =>
    rw [okP, Bool.and_eq_true] at h
    have ht := h.1
    unfold okT at ht
    cases hp t (by simp) with
    | field hf => rw [hf] at ht; simp at ht
    | one c hc h1 h2 =>
      subst hc
      have hn := one_notF h1 h2
      rw [hn] at ht
      have hpl : plainB c = true := by simpa using ht
      refine .inr ⟨c, r.flatMap (fmtP y m d), ?_, ?_⟩
      · rw [List.flatMap_cons]
        have : fmtP y m d [c] = [c] := by simp [fmtP, fY, fMM, fM, fDD, fD, h1, h2]
        rw [this]
        rfl
      · unfold plainB at hpl
        simp only [Bool.and_eq_true, Bool.not_eq_true', decide_eq_false_iff_not] at hpl
        unfold digB
        rw [decide_eq_false_iff_not]
        exact hpl.1.1.1.2

theorem field_read {t : List UInt8} (hf : isF t = true) (y m d : Nat) (hy : y < 10000) (hm : m < 100) (hd : d < 100) (r : List UInt8) (hr : shB t = true → Stop r) :
    dgs (fmtP y m d t ++ r) (max t.length 2) = fmtP y m d t ∧ val (fmtP y m d t) = (if t.headD 0 = 89 then y else if t.headD 0 = 77 then m else d) := by
  rcases field_cases hf with h | h | h | h | h <;> subst h
  · exact ⟨dgs_four y hy r, val_four y hy⟩
  · exact ⟨dgs_two m hm r, val_two m hm⟩
  · exact ⟨dgs_one m hm r (hr rfl), val_one m hm⟩
  · exact ⟨dgs_two d hd r, val_two d hd⟩
  · exact ⟨dgs_one d hd r (hr rfl), val_one d hd⟩

theorem rd_fmt (y m d : Nat) (hy : y < 10000) (hm : m < 100) (hd : d < 100) : ∀ (ps : List (List UInt8)) (s : Bool) (v : Ymd), (∀ t ∈ ps, Form t) → okP s ps = true → rd ps (ps.flatMap (fmtP y m d)) v = some (upd y m d ps v)
  | [], _, _, _, _ => rfl
  | t :: ps, s, v, hp, h => by
    rw [okP, Bool.and_eq_true, isF_short] at h
    have hp' : ∀ x ∈ ps, Form x := fun x hx => hp x (by simp [hx])
    rw [rd, upd, List.flatMap_cons]
    cases hp t (by simp) with
    | field hf =>
      obtain ⟨e1, e2⟩ := field_read hf y m d hy hm hd (ps.flatMap (fmtP y m d)) (fun hs => stop_of y m d hp' (by rw [hs] at h; exact h.2))
      rw [if_pos hf, if_pos hf, e1, e2, List.drop_left]
      exact rd_fmt y m d hy hm hd ps _ _ hp' h.2
    | one c hc h1 h2 =>
      subst hc
      have hn := one_notF h1 h2
      have : fmtP y m d [c] = [c] := by simp [fmtP, fY, fMM, fM, fDD, fD, h1, h2]
      rw [if_neg (by rw [hn]; simp), this, if_pos (by simp), if_neg (by rw [hn]; simp), List.drop_left]
      exact rd_fmt y m d hy hm hd ps _ _ hp' h.2
theorem rr_fmt (y m d : Nat) (hy : y < 10000) (hm : m < 100) (hd : d < 100) (S : List UInt8) : ∀ (ps : List (List UInt8)) (s : Bool) (v : Ymd) (k : Nat), (∀ t ∈ ps, Form t) → okP s ps = true → k ≤ S.length → S.drop k = ps.flatMap (fmtP y m d) → rr S ps k v = some (upd y m d ps v)
  | [], _, _, _, _, _, _, _ => rfl
  | t :: ps, s, v, k, hp, h, hk, hS => by
    rw [okP, Bool.and_eq_true, isF_short] at h
    have hp' : ∀ x ∈ ps, Form x := fun x hx => hp x (by simp [hx])
    rw [List.flatMap_cons] at hS
    have hl := congrArg List.length hS
    rw [List.length_drop, List.length_append] at hl
    have hd2 : S.drop (k + (fmtP y m d t).length) = ps.flatMap (fmtP y m d) := by rw [← List.drop_drop, hS, List.drop_left]
    rw [rr, upd]
    cases hp t (by simp) with
    | field hf =>
      obtain ⟨e1, e2⟩ := field_read hf y m d hy hm hd (ps.flatMap (fmtP y m d)) (fun hs => stop_of y m d hp' (by rw [hs] at h; exact h.2))
      rw [if_pos hf, if_pos hf, if_neg (by omega), most_max hf, hS, e1, e2]
      exact rr_fmt y m d hy hm hd S ps _ _ _ hp' h.2 (by omega) hd2
    | one c hc h1 h2 =>
      subst hc
      have hn := one_notF h1 h2
      have e : fmtP y m d [c] = [c] := by simp [fmtP, fY, fMM, fM, fDD, fD, h1, h2]
      rw [e] at hd2 hl
      rw [if_neg (by rw [hn]; simp), if_neg (by rw [hn]; simp)]
      exact rr_fmt y m d hy hm hd S ps _ _ _ hp' h.2 (by simp at hl; omega) hd2

theorem upd_1 (y m d : Nat) : ∀ (ps : List (List UInt8)) (v : Ymd), (∀ t ∈ ps, Form t) → (upd y m d ps v).1 = (if 0 < cnt 89 ps then y else v.1) ∧ (upd y m d ps v).2.1 = (if 0 < cnt 77 ps then m else v.2.1) ∧ (upd y m d ps v).2.2 = (if 0 < cnt 68 ps then d else v.2.2)
  | [], v, _ => ⟨rfl, rfl, rfl⟩
  | t :: ps, v, hp => by
    have hp' : ∀ x ∈ ps, Form x := fun x hx => hp x (by simp [hx])
    obtain ⟨h1, h2, h3⟩ := upd_1 y m d ps (if isF t = true then setV v t (if t.headD 0 = 89 then y else if t.headD 0 = 77 then m else d) else v) hp'
    rw [upd, h1, h2, h3]
    have hc : ∀ c, cnt c (t :: ps) = (if kind c t = true then 1 else 0) + cnt c ps := by
      intro c
      unfold cnt
      rw [List.filter_cons]
      split
      · rw [List.length_cons, Nat.add_comm]
      · rw [Nat.zero_add]
    rw [hc, hc, hc]
    cases hf : isF t with
    | false =>
      have : ∀ c, kind c t = false := fun c => by unfold kind; rw [hf]; rfl
      simp [this]
    | true =>
      rcases field_cases hf with h | h | h | h | h <;> subst h <;> simp [kind, isF, setV, fY, fMM, fM, fDD, fD]
theorem upd_all (y m d : Nat) (l : List UInt8) (h : rightB l = true) (v : Ymd) : upd y m d (parts l) v = (y, m, d) := by
  unfold rightB at h
  simp only [Bool.and_eq_true, beq_iff_eq] at h
  obtain ⟨h1, h2, h3⟩ := upd_1 y m d (parts l) v (parts_form l)
  rw [if_pos (by omega)] at h1 h2 h3
  exact Prod.ext h1 (Prod.ext h2 h3)
theorem right_ok {l : List UInt8} (h : rightB l = true) : okP false (parts l) = true := by
  unfold rightB at h
  simp only [Bool.and_eq_true] at h
  exact h.1.2
/-- What was written is read. -/
theorem rd_back {l : List UInt8} (h : rightB l = true) (y m d : Nat) (hy : y < 10000) (hm : m < 100) (hd : d < 100) (v : Ymd) : rd (parts l) (fmtL y m d l) v = some (y, m, d) := by
  rw [fmtL, rd_fmt y m d hy hm hd _ _ v (parts_form l) (right_ok h), upd_all y m d l h]
theorem rr_back {l : List UInt8} (h : rightB l = true) (y m d : Nat) (hy : y < 10000) (hm : m < 100) (hd : d < 100) (v : Ymd) : rr (fmtL y m d l) (parts l) 0 v = some (y, m, d) := by
  exact (rr_fmt y m d hy hm hd (fmtL y m d l) (parts l) false v 0 (parts_form l) (right_ok h) (Nat.zero_le _) rfl).trans (by rw [upd_all y m d l h])
/-- Dates with different numbers have different texts. -/
theorem fmt_inj {l : List UInt8} (h : rightB l = true) {y m d y' m' d' : Nat} (hy : y < 10000) (hm : m < 100) (hd : d < 100) (hy' : y' < 10000) (hm' : m' < 100) (hd' : d' < 100) (he : fmtL y m d l = fmtL y' m' d' l) : y = y' ∧ m = m' ∧ d = d' := by
  have h1 := rd_back h y m d hy hm hd (0, 0, 0)
  rw [he, rd_back h y' m' d' hy' hm' hd'] at h1
  injection h1 with h1
  injection h1 with a b
  injection b with b c
  exact ⟨a.symm, b.symm, c.symm⟩
end Go.Proofs.YtmpfgdpicbpedaaDoor
