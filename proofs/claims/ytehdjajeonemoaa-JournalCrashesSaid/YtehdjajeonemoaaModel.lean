/-
  The plain model of a disk (layer 30): lists and numbers alone; nothing of the program is imported. Conditions: none.
-/
import Derived.RowKit
namespace Go.Proofs.Ytehdjajeonemoaa

/-- Contents c after the text s is written at off; filled up with zeros before. -/
def putL (c : List UInt8) (off : Nat) (s : List UInt8) : List UInt8 :=
  (c ++ List.replicate (off - c.length) 0).take off ++ s ++ c.drop (off + s.length)

theorem putL_length (c : List UInt8) (off : Nat) (s : List UInt8) : (putL c off s).length = max c.length (off + s.length) := by
  simp only [putL, List.length_append, List.length_take, List.length_replicate, List.length_drop]
  omega

/-- The pieces of a text that is written at off (fuel f). -/
def cut (f : Nat) (off : Nat) (s : List UInt8) : List (Nat × List UInt8) :=
  match f with
  | 0 => []
  | f + 1 => if s.length = 0 then [] else
    (off, s.take (min s.length (64 - off % 64))) :: cut f (off + min s.length (64 - off % 64)) (s.drop (min s.length (64 - off % 64)))

structure Dk where
  now : List UInt8
  synced : List UInt8
  pend : List (Nat × List UInt8)
  calls : Nat
  limited : Bool
  left : Nat

def Dk.new : Dk := ⟨[], [], [], 0, false, 0⟩
def Dk.off (D : Dk) : Bool := D.limited && (D.left == 0)
def Dk.count (D : Dk) : Dk := { D with calls := D.calls + 1, left := if D.limited then D.left - 1 else D.left }
def Dk.write (D : Dk) (off : Int) (s : List UInt8) : Int × Dk :=
  if off < 0 ∨ off > 16777216 - (s.length : Int) then (1, D)
  else if D.off then (70, D)
  else (0, { D.count with now := putL D.now off.toNat s, pend := D.pend ++ cut s.length off.toNat s })
def Dk.sync (D : Dk) : Int × Dk :=
  if D.off then (70, D) else (0, { D.count with synced := D.now, pend := [] })
def Dk.fail (D : Dk) (n : Int) : Dk := { D with limited := decide (0 ≤ n), left := n.toNat }
def Dk.read (D : Dk) (off n : Int) : List UInt8 :=
  if off < 0 ∨ n < 1 ∨ off ≥ D.now.length then [] else (D.now.drop off.toNat).take n.toNat

/-- Writes pieces in order, from which those are left out whose number k has an even element k modulo the length of q. -/
def survL (q : List Int) : Nat → List (Nat × List UInt8) → List UInt8 → List UInt8
  | _, [], c => c
  | k, p :: ps, c => survL q (k + 1) ps (if (q.getD (k % q.length) 0).tmod 2 ≠ 0 then putL c p.1 p.2 else c)
def crashL (D : Dk) (q : List Int) : List UInt8 := if q.length = 0 then D.synced else survL q 0 D.pend D.synced
def Dk.crash (D : Dk) (q : List Int) : Dk := ⟨crashL D q, crashL D q, [], 0, false, 0⟩

/-- All pieces, written in order. -/
def allL (ps : List (Nat × List UInt8)) (c : List UInt8) : List UInt8 := ps.foldl (fun c p => putL c p.1 p.2) c

/-- What holds of every disk: the pieces make the contents out of the synced ones; all lies within 2^24. -/
structure Dk.Ok (D : Dk) : Prop where
  now : putL (allL D.pend D.synced) D.now.length [] = D.now
  len : D.now.length ≤ 16777216
  syn : D.synced.length ≤ 16777216
  pie : ∀ p ∈ D.pend, p.1 + p.2.length ≤ 16777216

theorem putL_get (c : List UInt8) (off : Nat) (s : List UInt8) (i : Nat) : (putL c off s)[i]? =
    if i < off then (if i < c.length then c[i]? else some 0) else if i < off + s.length then s[i - off]? else c[i]? := by
  have hl : ((c ++ List.replicate (off - c.length) 0).take off).length = off := by simp; omega
  unfold putL
  rw [List.append_assoc]
  by_cases h1 : i < off
  · rw [if_pos h1, List.getElem?_append_left (by omega), List.getElem?_take, if_pos h1]
    by_cases h2 : i < c.length
    · rw [if_pos h2, List.getElem?_append_left h2]
    · rw [if_neg h2, List.getElem?_append_right (by omega), List.getElem?_replicate, if_pos (by omega)]
  · rw [if_neg h1, List.getElem?_append_right (by omega), hl]
    by_cases h2 : i < off + s.length
    · rw [if_pos h2, List.getElem?_append_left (by omega)]
    · rw [if_neg h2, List.getElem?_append_right (by omega), List.getElem?_drop]
      congr 1
      omega

theorem ext0 {a b : List UInt8} (hl : a.length = b.length) (h : ∀ i, a.getD i 0 = b.getD i 0) : a = b := by
  apply List.ext_getElem hl
  intro i h1 h2
  have := h i
  simpa [List.getD, List.getElem?_eq_getElem h1, List.getElem?_eq_getElem h2] using this

theorem putL_getD (c : List UInt8) (off : Nat) (s : List UInt8) (i : Nat) : (putL c off s).getD i 0 = if off ≤ i ∧ i < off + s.length then s.getD (i - off) 0 else c.getD i 0 := by
  simp only [List.getD, putL_get]
  by_cases h1 : i < off
  · rw [if_pos h1]
    by_cases h2 : i < c.length
    · rw [if_pos h2, if_neg (by omega)]
    · rw [if_neg h2, if_neg (by omega), List.getElem?_eq_none (by omega)]; rfl
  · rw [if_neg h1]
    by_cases h2 : i < off + s.length
    · rw [if_pos h2, if_pos ⟨by omega, h2⟩]
    · rw [if_neg h2, if_neg (by omega)]

theorem putL_nil_id (c : List UInt8) (off : Nat) (h : off ≤ c.length) : putL c off [] = c := by
  apply ext0
  · rw [putL_length]; simp only [List.length_nil]; omega
  · intro i; rw [putL_getD, if_neg (by simp only [List.length_nil]; omega)]

/-- A text that is written part by part. -/
theorem putL_putL (c : List UInt8) (off : Nat) (a b : List UInt8) : putL (putL c off a) (off + a.length) b = putL c off (a ++ b) := by
  apply ext0
  · simp only [putL_length, List.length_append]; omega
  · intro i
    simp only [putL_getD, List.length_append]
    by_cases h1 : off + a.length ≤ i ∧ i < off + a.length + b.length
    · rw [if_pos h1, if_pos (by omega)]
      simp only [List.getD]
      rw [List.getElem?_append_right (by omega)]
      congr 2; omega
    · rw [if_neg h1]
      by_cases h2 : off ≤ i ∧ i < off + a.length
      · rw [if_pos h2, if_pos (by omega)]
        simp only [List.getD]
        rw [List.getElem?_append_left (by omega)]
      · rw [if_neg h2, if_neg (by omega)]

/-- What is filled up may be written before or behind. -/
theorem putL_pad (c : List UInt8) (n off : Nat) (s : List UInt8) : putL (putL c n []) off s = putL (putL c off s) (max (max c.length n) (off + s.length)) [] := by
  apply ext0
  · simp only [putL_length, List.length_nil]; omega
  · intro i
    simp only [putL_getD, List.length_nil, Nat.add_zero]
    rw [if_neg (by omega : ¬ (n ≤ i ∧ i < n)), if_neg (by omega : ¬ (max (max c.length n) (off + s.length) ≤ i ∧ i < max (max c.length n) (off + s.length)))]

theorem allL_append (a b : List (Nat × List UInt8)) (c : List UInt8) : allL (a ++ b) c = allL b (allL a c) := by simp [allL, List.foldl_append]

theorem cut_all : ∀ (f off : Nat) (s : List UInt8) (c : List UInt8), s.length ≤ f → 0 < s.length → allL (cut f off s) c = putL c off s
  | 0, _, s, _, h, h0 => by omega
  | f + 1, off, s, c, h, h0 => by
    have hn : 0 < min s.length (64 - off % 64) := by have := Nat.mod_lt off (show 0 < 64 by decide); omega
    rw [cut, if_neg (by omega)]
    show allL (cut f _ _) (putL c off _) = _
    by_cases h1 : (s.drop (min s.length (64 - off % 64))).length = 0
    · have h2 : cut f (off + min s.length (64 - off % 64)) (s.drop (min s.length (64 - off % 64))) = [] := by
        cases f with
        | zero => rfl
        | succ f => rw [cut, if_pos h1]
      rw [h2]
      show putL c off _ = _
      rw [List.take_of_length_le (by simp at h1; omega)]
    · rw [cut_all f _ _ _ (by simp; omega) (by omega)]
      have := putL_putL c off (s.take (min s.length (64 - off % 64))) (s.drop (min s.length (64 - off % 64)))
      rw [List.take_append_drop] at this
      rw [← this]
      congr 1
      simp

theorem cut_nil (f off : Nat) : cut f off [] = [] := by cases f <;> simp [cut]

theorem allL_length_le (n : Nat) : ∀ (ps : List (Nat × List UInt8)) (c : List UInt8), c.length ≤ n → (∀ p ∈ ps, p.1 + p.2.length ≤ n) → (allL ps c).length ≤ n
  | [], c, h, _ => h
  | p :: ps, c, h, hp => allL_length_le n ps (putL c p.1 p.2) (by rw [putL_length]; have := hp p (by simp); omega) (fun q hq => hp q (by simp [hq]))

theorem cut_pie : ∀ (f off : Nat) (s : List UInt8), ∀ p ∈ cut f off s, p.1 + p.2.length ≤ off + s.length
  | 0, _, _, p, h => by simp [cut] at h
  | f + 1, off, s, p, h => by
    rw [cut] at h
    split at h
    · simp at h
    · rcases List.mem_cons.1 h with rfl | h
      · simp; omega
      · have := cut_pie f _ _ p h
        simp at this
        omega

theorem cut_len : ∀ (f off : Nat) (s : List UInt8), (cut f off s).length ≤ s.length
  | 0, _, _ => by simp [cut]
  | f + 1, off, s => by
    rw [cut]
    split
    · simp
    · have hn : 0 < min s.length (64 - off % 64) := by have := Nat.mod_lt off (show 0 < 64 by decide); omega
      have := cut_len f (off + min s.length (64 - off % 64)) (s.drop (min s.length (64 - off % 64)))
      simp at this ⊢
      omega

theorem Dk.ok_new : Dk.new.Ok := ⟨rfl, by simp [Dk.new], by simp [Dk.new], by simp [Dk.new]⟩

theorem Dk.ok_write {D : Dk} (h : D.Ok) (off : Int) (s : List UInt8) : (D.write off s).2.Ok := by
  unfold Dk.write
  split
  · exact h
  · rename_i h1
    split
    · exact h
    · have h0 : 0 ≤ off := by omega
      have hb : off.toNat + s.length ≤ 16777216 := by omega
      have hA : (allL D.pend D.synced).length ≤ D.now.length := by
        have := congrArg List.length h.now
        rw [putL_length] at this
        omega
      refine ⟨?_, ?_, h.syn, ?_⟩
      · show putL (allL (D.pend ++ cut s.length off.toNat s) D.synced) (putL D.now off.toNat s).length [] = putL D.now off.toNat s
        rw [allL_append]
        have e : putL D.now off.toNat s = putL (putL (allL D.pend D.synced) off.toNat s) (max D.now.length (off.toNat + s.length)) [] := by
          have := putL_pad (allL D.pend D.synced) D.now.length off.toNat s
          rw [h.now] at this
          rw [this]
          congr 1
          omega
        by_cases hs : s.length = 0
        · have hs' : s = [] := List.eq_nil_of_length_eq_zero hs
          subst hs'
          rw [cut_nil, putL_length, e]
          show putL (allL D.pend D.synced) _ [] = _
          apply ext0
          · simp only [putL_length, List.length_nil]; omega
          · intro i
            simp only [putL_getD, List.length_nil, Nat.add_zero]
            rw [if_neg (by omega), if_neg (by omega), if_neg (by omega)]
        · rw [cut_all _ _ _ _ (Nat.le_refl _) (by omega), putL_length, ← e]
      · show (putL D.now off.toNat s).length ≤ _
        rw [putL_length]; have := h.len; omega
      · intro p hp
        rcases List.mem_append.1 hp with hp | hp
        · exact h.pie p hp
        · have := cut_pie _ _ _ p hp
          omega

theorem Dk.ok_sync {D : Dk} (h : D.Ok) : D.sync.2.Ok := by
  unfold Dk.sync
  split
  · exact h
  · exact ⟨putL_nil_id _ _ (Nat.le_refl _), h.len, h.len, by simp⟩

theorem Dk.ok_fail {D : Dk} (h : D.Ok) (n : Int) : (D.fail n).Ok := ⟨h.now, h.len, h.syn, h.pie⟩

theorem survL_length_le (n : Nat) (q : List Int) : ∀ (ps : List (Nat × List UInt8)) (k : Nat) (c : List UInt8), c.length ≤ n → (∀ p ∈ ps, p.1 + p.2.length ≤ n) → (survL q k ps c).length ≤ n
  | [], _, c, h, _ => h
  | p :: ps, k, c, h, hp => by
    rw [survL]
    refine survL_length_le n q ps (k + 1) _ ?_ (fun x hx => hp x (by simp [hx]))
    split
    · rw [putL_length]; have := hp p (by simp); omega
    · exact h

theorem Dk.crashL_len {D : Dk} (h : D.Ok) (q : List Int) : (crashL D q).length ≤ 16777216 := by
  unfold crashL
  split
  · exact h.syn
  · exact survL_length_le _ q _ _ _ h.syn h.pie

theorem Dk.ok_crash {D : Dk} (h : D.Ok) (q : List Int) : (D.crash q).Ok :=
  ⟨putL_nil_id _ _ (Nat.le_refl _), Dk.crashL_len h q, Dk.crashL_len h q, by simp [Dk.crash]⟩

end Go.Proofs.Ytehdjajeonemoaa
