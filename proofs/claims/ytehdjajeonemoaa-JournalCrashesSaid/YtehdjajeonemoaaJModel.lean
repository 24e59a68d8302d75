/-
  The plain model of a journal on a disk (layer 31): lists and numbers alone; nothing of the program is imported. Conditions: none.
-/
import Derived.Test.YtehdjajeonemoaaModel
namespace Go.Proofs.Ytehdjajeonemoaa

/-- The number of some bytes, the most significant one first. -/
def numN (l : List UInt8) : Nat := l.foldl (fun n c => n * 256 + c.toNat) 0
/-- The same, as a number of 64 bits with a sign. -/
def numI (l : List UInt8) : Int := if numN l < 9223372036854775808 then numN l else (numN l : Int) - 18446744073709551616
/-- A number in eight bytes. -/
def be8 (n : Nat) : List UInt8 :=
  [UInt8.ofNat (n / 72057594037927936), UInt8.ofNat (n / 281474976710656), UInt8.ofNat (n / 1099511627776), UInt8.ofNat (n / 4294967296), UInt8.ofNat (n / 16777216), UInt8.ofNat (n / 65536), UInt8.ofNat (n / 256), UInt8.ofNat n]
theorem be8_length (n : Nat) : (be8 n).length = 8 := rfl

theorem numN_lt (l : List UInt8) : numN l < 256 ^ l.length := by
  have aux : ∀ (l : List UInt8) (n k : Nat), n < 256 ^ k → l.foldl (fun n c => n * 256 + c.toNat) n < 256 ^ (k + l.length) := by
    intro l
    induction l with
    | nil => intro n k h; exact h
    | cons c l ih =>
      intro n k h
      have := ih (n * 256 + c.toNat) (k + 1) (by have := c.toNat_lt; rw [Nat.pow_succ]; omega)
      rw [List.foldl_cons, List.length_cons]
      rw [show k + (l.length + 1) = k + 1 + l.length by omega]
      exact this
  have := aux l 0 0 (by decide)
  rw [Nat.zero_add] at this
  exact this
theorem numN_snoc (l : List UInt8) (c : UInt8) : numN (l ++ [c]) = numN l * 256 + c.toNat := by simp [numN]

theorem numN_be8 (n : Nat) (h : n < 18446744073709551616) : numN (be8 n) = n := by
  simp only [numN, be8, List.foldl_cons, List.foldl_nil, UInt8.toNat_ofNat']
  omega
theorem numI_be8 (n : Nat) (h : n < 9223372036854775808) : numI (be8 n) = n := by
  unfold numI
  rw [numN_be8 n (by omega), if_pos h]
theorem be8_numN (l : List UInt8) (h : l.length = 8) : be8 (numN l) = l := by
  match l, h with
  | [a, b, c, d, e, f, g, i], _ =>
    have ha := a.toNat_lt
    have hb := b.toNat_lt
    have hc := c.toNat_lt
    have hd := d.toNat_lt
    have he := e.toNat_lt
    have hf := f.toNat_lt
    have hg := g.toNat_lt
    have hi := i.toNat_lt
    simp only [numN, List.foldl_cons, List.foldl_nil, be8, List.cons.injEq, and_true]
    refine ⟨?_, ?_, ?_, ?_, ?_, ?_, ?_, ?_⟩ <;> (apply UInt8.toNat.inj; rw [UInt8.toNat_ofNat']; omega)
theorem be8_numI (l : List UInt8) (h : l.length = 8) (h0 : 0 ≤ numI l) : be8 (numI l).toNat = l := by
  have := numN_lt l
  rw [h] at this
  have e : (numI l).toNat = numN l := by
    unfold numI at h0 ⊢
    split at h0
    · rw [if_pos (by assumption)]; rfl
    · have : (256 : Nat) ^ 8 = 18446744073709551616 := by decide
      omega
  rw [e, be8_numN l h]

/-- A record with its length in front; all records. -/
def frm8 (r : List UInt8) : List UInt8 := be8 r.length ++ r
def recs (L : List (List UInt8)) : List UInt8 := L.flatMap frm8
/-- How many bytes all records have. -/
def sumL (L : List (List UInt8)) : Nat := (L.map List.length).sum
theorem frm8_length (r : List UInt8) : (frm8 r).length = 8 + r.length := by simp [frm8, be8_length]
theorem recs_cons (r : List UInt8) (L : List (List UInt8)) : recs (r :: L) = frm8 r ++ recs L := rfl
theorem recs_append (L M : List (List UInt8)) : recs (L ++ M) = recs L ++ recs M := by simp [recs]
theorem recs_one (r : List UInt8) : recs [r] = frm8 r := by simp [recs]
theorem recs_length (L : List (List UInt8)) : (recs L).length = 8 * L.length + sumL L := by
  induction L with
  | nil => rfl
  | cons r L ih =>
    rw [recs_cons, List.length_append, frm8_length, ih]
    simp [sumL]
    omega
theorem sumL_append (L M : List (List UInt8)) : sumL (L ++ M) = sumL L + sumL M := by simp [sumL]
theorem le_sumL : ∀ (L : List (List UInt8)) (r : List UInt8), r ∈ L → r.length ≤ sumL L
  | [], r, h => by simp at h
  | x :: L, r, h => by
    have e : sumL (x :: L) = x.length + sumL L := by simp [sumL]
    rcases List.mem_cons.1 h with rfl | h
    · omega
    · have := le_sumL L r h
      omega
theorem sumL_one (r : List UInt8) : sumL [r] = r.length := by simp [sumL]

/-- What a visit of a text's records comes to: each record with true; at last the empty one with false, where there is none (fuel f). -/
def vis (f : Nat) (s : List UInt8) : List (List UInt8 × Bool) :=
  match f with
  | 0 => []
  | f + 1 => if s.length = 0 then [] else if s.length < 8 then [([], false)] else
    if numI (s.take 8) < 0 ∨ numI (s.take 8) > (s.length : Int) - 8 then [([], false)] else
    ((s.drop 8).take (numI (s.take 8)).toNat, true) :: vis f (s.drop (8 + (numI (s.take 8)).toNat))
theorem vis_fuel : ∀ (f g : Nat) (s : List UInt8), s.length ≤ f → s.length ≤ g → vis f s = vis g s := by
  intro f
  induction f with
  | zero =>
    intro g s hf _
    cases g with
    | zero => rfl
    | succ g => rw [vis, vis, if_pos (by omega)]
  | succ f ih =>
    intro g s hf hg
    cases g with
    | zero => rw [vis, vis, if_pos (by omega)]
    | succ g =>
      rw [vis, vis]
      split
      · rfl
      · split
        · rfl
        · split
          · rfl
          · rw [ih g _ (by simp; omega) (by simp; omega)]
def visL (s : List UInt8) : List (List UInt8 × Bool) := vis s.length s
theorem visL_nil : visL [] = [] := rfl
theorem visL_short (s : List UInt8) (h0 : 0 < s.length) (h : s.length < 8) : visL s = [([], false)] := by
  unfold visL
  obtain ⟨f, hf⟩ : ∃ f, s.length = f + 1 := ⟨s.length - 1, by omega⟩
  rw [hf, vis, if_neg (by omega), if_pos h]
theorem visL_bad (s : List UInt8) (h : 8 ≤ s.length) (hn : numI (s.take 8) < 0 ∨ numI (s.take 8) > (s.length : Int) - 8) : visL s = [([], false)] := by
  unfold visL
  obtain ⟨f, hf⟩ : ∃ f, s.length = f + 1 := ⟨s.length - 1, by omega⟩
  rw [hf, vis, if_neg (by omega), if_neg (by omega), if_pos hn]
theorem visL_step (s : List UInt8) (h : 8 ≤ s.length) (h0 : 0 ≤ numI (s.take 8)) (h1 : numI (s.take 8) ≤ (s.length : Int) - 8) :
    visL s = ((s.drop 8).take (numI (s.take 8)).toNat, true) :: visL (s.drop (8 + (numI (s.take 8)).toNat)) := by
  unfold visL
  obtain ⟨f, hf⟩ : ∃ f, s.length = f + 1 := ⟨s.length - 1, by omega⟩
  rw [hf, vis, if_neg (by omega), if_neg (by omega), if_neg (by omega)]
  rw [vis_fuel f (s.drop (8 + (numI (s.take 8)).toNat)).length _ (by simp; omega) (Nat.le_refl _)]

theorem visL_recs : ∀ (L : List (List UInt8)), (∀ r ∈ L, r.length < 9223372036854775808) → visL (recs L) = L.map fun r => (r, true)
  | [], _ => rfl
  | r :: L, h => by
    have ht : (recs (r :: L)).take 8 = be8 r.length := by rw [recs_cons, frm8, List.append_assoc, List.take_append_of_le_length (by rw [be8_length]; exact Nat.le_refl _), List.take_of_length_le (by rw [be8_length]; exact Nat.le_refl _)]
    have hn : numI ((recs (r :: L)).take 8) = r.length := by rw [ht, numI_be8 _ (h r (by simp))]
    have hl : (recs (r :: L)).length = 8 + r.length + (recs L).length := by rw [recs_cons, List.length_append, frm8_length]
    rw [visL_step _ (by omega) (by rw [hn]; omega) (by rw [hn, hl]; omega), hn]
    have hd : (recs (r :: L)).drop 8 = r ++ recs L := by
      rw [recs_cons, frm8, List.append_assoc, List.drop_append_of_le_length (by rw [be8_length]; exact Nat.le_refl _), List.drop_of_length_le (by rw [be8_length]; exact Nat.le_refl _), List.nil_append]
    have hd2 : (recs (r :: L)).drop (8 + r.length) = recs L := by
      rw [recs_cons, ← frm8_length, List.drop_left]
    rw [Int.toNat_natCast, hd, hd2, List.take_left, visL_recs L (fun x hx => h x (by simp [hx]))]
    rfl

/-- How much may be visited. -/
theorem visL_bound : ∀ (f : Nat) (s : List UInt8), s.length ≤ f → (visL s).length + sumL ((visL s).map Prod.fst) ≤ s.length
  | 0, s, hf => by
    have : s = [] := List.eq_nil_of_length_eq_zero (by omega)
    subst this
    exact Nat.le_refl _
  | f + 1, s, hf => by
    by_cases h0 : s.length = 0
    · have : s = [] := List.eq_nil_of_length_eq_zero h0
      subst this
      exact Nat.le_refl _
    by_cases h8 : s.length < 8
    · rw [visL_short s (by omega) h8]
      simp [sumL]
      omega
    by_cases hn : numI (s.take 8) < 0 ∨ numI (s.take 8) > (s.length : Int) - 8
    · rw [visL_bad s (by omega) hn]
      simp [sumL]
      omega
    have e := visL_step s (by omega) (by omega) (by omega)
    have ih := visL_bound f (s.drop (8 + (numI (s.take 8)).toNat)) (by simp; omega)
    rw [e]
    have hl : ((s.drop 8).take (numI (s.take 8)).toNat).length = (numI (s.take 8)).toNat := by simp; omega
    simp only [List.map_cons, List.length_cons, List.length_drop] at ih ⊢
    have e2 : ∀ (x : List UInt8) (M : List (List UInt8)), sumL (x :: M) = x.length + sumL M := fun x M => by simp [sumL]
    rw [e2, hl]
    omega

/-- Where every visit was of a record, the text is that of the records. -/
theorem visL_all : ∀ (f : Nat) (s : List UInt8), s.length ≤ f → (∀ p ∈ visL s, p.2 = true) → s = recs ((visL s).map Prod.fst)
  | 0, s, hf, _ => by
    have : s = [] := List.eq_nil_of_length_eq_zero (by omega)
    subst this
    rfl
  | f + 1, s, hf, h => by
    by_cases h0 : s.length = 0
    · have : s = [] := List.eq_nil_of_length_eq_zero h0
      subst this
      rfl
    by_cases h8 : s.length < 8
    · rw [visL_short s (by omega) h8] at h
      exact absurd (h _ (List.mem_singleton.2 rfl)) (by simp)
    by_cases hn : numI (s.take 8) < 0 ∨ numI (s.take 8) > (s.length : Int) - 8
    · rw [visL_bad s (by omega) hn] at h
      exact absurd (h _ (List.mem_singleton.2 rfl)) (by simp)
    have e := visL_step s (by omega) (by omega) (by omega)
    rw [e] at h ⊢
    have ih := visL_all f (s.drop (8 + (numI (s.take 8)).toNat)) (by simp; omega) (fun p hp => h p (by simp [hp]))
    rw [List.map_cons, recs_cons, ← ih]
    have hl : ((s.drop 8).take (numI (s.take 8)).toNat).length = (numI (s.take 8)).toNat := by simp; omega
    rw [frm8, hl, be8_numI _ (by simp; omega) (by omega), ← List.drop_drop, List.append_assoc, List.take_append_drop, List.take_append_drop]

def magicL : List UInt8 := [99, 111, 110, 99, 111, 114, 100, 49]
def blankL : List UInt8 := [0, 0, 0, 0, 0, 0, 0, 0]

/-- What Open makes of contents: the end of the records, and the records; none where they have not the right form. -/
def openL (c : List UInt8) : Option (Nat × List (List UInt8)) :=
  if c.length = 0 then some (64, []) else if c.length < 64 then none else
  if c.take 8 = blankL ∧ (c.drop 8).take 8 = blankL then some (64, []) else
  if c.take 8 ≠ magicL ∨ numI ((c.drop 8).take 8) < 64 ∨ numI ((c.drop 8).take 8) > c.length then none else
  if (visL ((c.take (numI ((c.drop 8).take 8)).toNat).drop 64)).all (·.2) then some ((numI ((c.drop 8).take 8)).toNat, (visL ((c.take (numI ((c.drop 8).take 8)).toNat).drop 64)).map Prod.fst) else none

/-- Contents that bear the records L. -/
inductive Good (c : List UInt8) (L : List (List UInt8)) : Prop
  | blank (hL : L = []) (h : c = [] ∨ 64 ≤ c.length ∧ c.take 16 = blankL ++ blankL)
  | full (h1 : c.take 16 = magicL ++ be8 (64 + (recs L).length)) (h2 : (c.drop 64).take (recs L).length = recs L) (h3 : 64 + (recs L).length ≤ c.length)

theorem take8_of16 {c a b : List UInt8} (h : c.take 16 = a ++ b) (ha : a.length = 8) (_hb : b.length = 8) : c.take 8 = a ∧ (c.drop 8).take 8 = b := by
  have h1 : (c.take 16).take 8 = c.take 8 := by rw [List.take_take]; rfl
  have h2 : (c.take 16).drop 8 = (c.drop 8).take 8 := by rw [List.drop_take]
  rw [← h1, ← h2, h]
  exact ⟨by rw [← ha, List.take_left], by rw [← ha, List.drop_left]⟩
theorem take16_of8 {c a b : List UInt8} (h1 : c.take 8 = a) (h2 : (c.drop 8).take 8 = b) : c.take 16 = a ++ b := by
  rw [← h1, ← h2]
  rw [show (16 : Nat) = 8 + 8 from rfl, List.take_add]

theorem Good.open {c : List UInt8} {L : List (List UInt8)} (h : Good c L) (hc : c.length ≤ 16777216) : openL c = some (64 + (recs L).length, L) := by
  unfold openL
  cases h with
  | blank hL h =>
    subst hL
    rcases h with rfl | ⟨h1, h2⟩
    · rfl
    · rw [if_neg (by omega), if_neg (by omega), if_pos (take8_of16 h2 rfl rfl)]
      rfl
  | full h1 h2 h3 =>
    obtain ⟨g1, g2⟩ := take8_of16 h1 rfl rfl
    have gn : numI ((c.drop 8).take 8) = ((64 + (recs L).length : Nat) : Int) := by rw [g2, numI_be8 _ (by omega)]
    rw [if_neg (by omega), if_neg (by omega), if_neg (by rw [g1]; intro h; exact absurd h.1 (by decide))]
    rw [if_neg (by rw [g1, gn]; intro h; rcases h with h | h | h; exact h rfl; omega; omega)]
    have ge : (c.take (numI ((c.drop 8).take 8)).toNat).drop 64 = recs L := by rw [gn, Int.toNat_natCast, List.drop_take, Nat.add_sub_cancel_left, h2]
    have hlen : ∀ r ∈ L, r.length < 9223372036854775808 := by
      intro r hr
      have h1 := recs_length L
      have h2 := le_sumL L r hr
      omega
    rw [ge, visL_recs L hlen, gn, Int.toNat_natCast, if_pos (by simp), List.map_map]
    have : (L.map (Prod.fst ∘ fun r => (r, true))) = L := List.map_id L
    rw [this]

theorem Good.of_open {c : List UInt8} {e : Nat} {L : List (List UInt8)} (h : openL c = some (e, L)) (hc : c.length ≤ 16777216) : Good c L ∧ e = 64 + (recs L).length := by
  unfold openL at h
  split at h
  · rename_i h0
    cases h
    exact ⟨.blank rfl (.inl (List.eq_nil_of_length_eq_zero h0)), rfl⟩
  split at h
  · cases h
  split at h
  · rename_i h1 h2 h3
    cases h
    exact ⟨.blank rfl (.inr ⟨by omega, take16_of8 h3.1 h3.2⟩), rfl⟩
  split at h
  · cases h
  split at h
  · rename_i h1 h2 h3 h4 h5
    have hm : c.take 8 = magicL := Classical.byContradiction fun hm => h4 (.inl hm)
    have hlo : 64 ≤ numI ((c.drop 8).take 8) := by omega
    have hhi : numI ((c.drop 8).take 8) ≤ c.length := by omega
    injection h with h
    injection h with he hL
    have hs := visL_all _ ((c.take (numI ((c.drop 8).take 8)).toNat).drop 64) (Nat.le_refl _) (by simpa using h5)
    rw [hL] at hs
    have hl := congrArg List.length hs
    rw [List.length_drop, List.length_take] at hl
    have he' : e = 64 + (recs L).length := by omega
    refine ⟨.full ?_ ?_ (by omega), he'⟩
    · refine take16_of8 hm ?_
      rw [← he', ← he, be8_numI _ (by simp; omega) (by omega)]
    · rw [← hs, List.drop_take]
      have : (numI ((c.drop 8).take 8)).toNat - 64 = ((c.drop 64).take ((numI ((c.drop 8).take 8)).toNat - 64)).length := by simp; omega
      rw [← this]
  · cases h

theorem take_getD (l : List UInt8) (n i : Nat) : (l.take n).getD i 0 = if i < n then l.getD i 0 else 0 := by
  simp only [List.getD, List.getElem?_take]
  split <;> rfl
theorem Good.nil : Good [] [] := .blank rfl (.inl rfl)

/-- The first bytes alone say what contents bear. -/
theorem Good.far {c c' : List UInt8} {L : List (List UInt8)} (h : Good c L) (hl : 64 ≤ c'.length) (hl2 : c.length ≤ c'.length) (ht : ∀ i, i < 64 + (recs L).length → c'.getD i 0 = c.getD i 0) : Good c' L := by
  have key : ∀ n, n ≤ 64 + (recs L).length → n ≤ c.length → c'.take n = c.take n := by
    intro n h1 h2
    apply ext0
    · simp; omega
    · intro i
      rw [take_getD, take_getD]
      by_cases hi : i < n
      · rw [if_pos hi, if_pos hi, ht i (by omega)]
      · rw [if_neg hi, if_neg hi]
  cases h with
  | blank hL h =>
    subst hL
    refine .blank rfl (.inr ⟨hl, ?_⟩)
    rcases h with rfl | ⟨h1, h2⟩
    · apply ext0
      · simp [blankL]; omega
      · intro i
        have hz : (blankL ++ blankL).getD i 0 = 0 := by
          have : blankL ++ blankL = List.replicate 16 0 := by decide
          rw [this, List.getD, List.getElem?_replicate]
          split <;> rfl
        rw [take_getD, hz]
        split
        · have := ht i (by omega)
          rw [this]
          rfl
        · rfl
    · rw [key 16 (by omega) (by omega), h2]
  | full h1 h2 h3 =>
    refine .full ?_ ?_ (by omega)
    · rw [key 16 (by omega) (by omega), h1]
    · have := key (64 + (recs L).length) (Nat.le_refl _) h3
      have e := congrArg (List.drop 64) this
      rw [List.drop_take, List.drop_take, Nat.add_sub_cancel_left] at e
      rw [e, h2]

/-- What is written behind the records is not there. -/
theorem Good.put {c : List UInt8} {L : List (List UInt8)} (h : Good c L) (off : Nat) (s : List UInt8) (ho : 64 + (recs L).length ≤ off) : Good (putL c off s) L := by
  refine h.far ?_ ?_ ?_
  · rw [putL_length]; omega
  · rw [putL_length]; omega
  · intro i hi
    rw [putL_getD, if_neg (by omega)]

theorem Good.surv {L : List (List UInt8)} (q : List Int) : ∀ (ps : List (Nat × List UInt8)) (k : Nat) (c : List UInt8), Good c L → (∀ p ∈ ps, 64 + (recs L).length ≤ p.1) → Good (survL q k ps c) L
  | [], _, _, h, _ => h
  | p :: ps, k, c, h, hp => by
    rw [survL]
    refine Good.surv q ps (k + 1) _ ?_ (fun x hx => hp x (by simp [hx]))
    split
    · exact h.put _ _ (hp p (by simp))
    · exact h

theorem cut_lo : ∀ (f off : Nat) (s : List UInt8), ∀ p ∈ cut f off s, off ≤ p.1
  | 0, _, _, p, h => by simp [cut] at h
  | f + 1, off, s, p, h => by
    rw [cut] at h
    split at h
    · simp at h
    · rcases List.mem_cons.1 h with rfl | h
      · exact Nat.le_refl _
      · have := cut_lo f _ _ p h
        omega

/-- A header of sixteen bytes is written. -/
theorem put_header (c h : List UInt8) (hh : h.length = 16) : putL c 0 h = h ++ c.drop 16 ∧ (putL c 0 h).take 16 = h ∧ (putL c 0 h).drop 64 = c.drop 64 := by
  have hp : putL c 0 h = h ++ c.drop 16 := by
    unfold putL
    rw [hh, List.take_zero, List.nil_append]
  refine ⟨hp, ?_, ?_⟩
  · rw [hp, ← hh, List.take_left]
  · rw [hp, show (64 : Nat) = 16 + 48 from rfl, ← List.drop_drop, List.drop_append_of_le_length (by omega), List.drop_of_length_le (l := h) (i := 16) (by omega), List.nil_append, List.drop_drop]

/-- The header that says that one more record is there. -/
theorem Good.commit {c : List UInt8} {L : List (List UInt8)} (h : Good c L) (r : List UInt8) (hc : (c.drop (64 + (recs L).length)).take (frm8 r).length = frm8 r) (hl : 64 + (recs L).length + (frm8 r).length ≤ c.length) :
    Good (putL c 0 (magicL ++ be8 (64 + (recs L).length + (frm8 r).length))) (L ++ [r]) := by
  have hr : (recs (L ++ [r])).length = (recs L).length + (frm8 r).length := by rw [recs_append, recs_one, List.length_append]
  have hlen : (magicL ++ be8 (64 + (recs L).length + (frm8 r).length)).length = 16 := by simp [magicL, be8_length]
  obtain ⟨-, p2, p3⟩ := put_header c _ hlen
  refine .full ?_ ?_ ?_
  · rw [p2, hr, Nat.add_assoc]
  · rw [p3, hr, recs_append, recs_one, List.take_add, List.drop_drop, hc]
    congr 1
    cases h with
    | blank hL h => subst hL; rfl
    | full h1 h2 h3 => exact h2
  · rw [hr, putL_length, hlen]
    omega
end Go.Proofs.Ytehdjajeonemoaa
