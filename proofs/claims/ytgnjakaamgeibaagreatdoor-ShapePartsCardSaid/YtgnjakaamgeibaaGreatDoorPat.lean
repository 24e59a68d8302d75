/-
  Patterns: plain lists. Nothing of the program is imported. Conditions: none.
-/

import Derived.Lib.Hide
namespace Go.Proofs.YtgnjakaamgeibaaGreatDoor
def clsB (c : UInt8) : Nat :=
  if c.toNat < 32 ∨ 126 < c.toNat then 0 else if 48 ≤ c.toNat ∧ c.toNat ≤ 57 then 1 else if 65 ≤ c.toNat ∧ c.toNat ≤ 90 then 2 else if 97 ≤ c.toNat ∧ c.toNat ≤ 122 then 3 else if c.toNat = 32 then 5 else 6
def insB (k w : Int) : Bool := k == w || w == 7 || (w == 4 && (k == 2 || k == 3))
def chrs (l : List UInt8) : Bool := l.all fun c => clsB c != 0
def textB (l : List UInt8) : Bool := decide (l.length ≤ 200) && chrs l
/-- The characters that have a backslash in front. -/
def spc (c : UInt8) : Bool := c == 92 || c == 123 || c == 125 || c == 43 || c == 42
structure Pc where
  cls : Int
  lo : Int
  hi : Int
  txt : ByteArray
abbrev Pc.t (p : Pc) : List UInt8 := p.txt.data.toList
def pieceB (p : Pc) : Bool :=
  if p.cls = 0 then decide (p.lo = 0) && decide (p.hi = 0) && !p.t.isEmpty && chrs p.t
  else decide (1 ≤ p.cls) && decide (p.cls ≤ 7) && p.t.isEmpty && decide (0 ≤ p.lo) && decide (p.lo ≤ p.hi) && decide (1 ≤ p.hi) && decide (p.hi ≤ 200)
def pcsB : Bool → List Pc → Bool
  | _, [] => true
  | l, p :: r => pieceB p && !(l && decide (p.cls = 0)) && pcsB (decide (p.cls = 0)) r
/-- A number from 0 to 999. -/
def dec3 (n : Nat) : List UInt8 := if n < 10 then [UInt8.ofNat (48 + n)] else if n < 100 then [UInt8.ofNat (48 + n / 10), UInt8.ofNat (48 + n % 10)] else [UInt8.ofNat (48 + n / 100), UInt8.ofNat (48 + n / 10 % 10), UInt8.ofNat (48 + n % 10)]
def cntW (a b : Int) : List UInt8 :=
  if a = 1 ∧ b = 1 then [] else if a = 1 ∧ b = 200 then [43] else if a = 0 ∧ b = 200 then [42]
  else if a = b then [123] ++ dec3 a.toNat ++ [125] else [123] ++ dec3 a.toNat ++ [44] ++ dec3 b.toNat ++ [125]
def lets : List UInt8 := [100, 117, 108, 97, 115, 111, 46]
def wrtC (c : UInt8) : List UInt8 := if spc c then [92, c] else [c]
def wrtP (p : Pc) : List UInt8 := if p.cls = 0 then p.t.flatMap wrtC else [92, lets.getD (p.cls - 1).toNat 0] ++ cntW p.lo p.hi
def wrt (ps : List Pc) : List UInt8 := ps.flatMap wrtP
def rightB (ps : List Pc) : Bool := pcsB false ps && decide ((wrt ps).length ≤ 60)
def printL (ps : List Pc) : List UInt8 := if rightB ps then wrt ps else []
theorem wrtP_pos {p : Pc} (h : pieceB p = true) : 1 ≤ (wrtP p).length := by
  unfold pieceB at h
  unfold wrtP
  split
  · rename_i hc
    rw [if_pos hc] at h
    simp only [Bool.and_eq_true, Bool.not_eq_true', List.isEmpty_eq_false_iff] at h
    cases ht : p.t with
    | nil => exact absurd ht h.1.2
    | cons a l =>
      rw [List.flatMap_cons, List.length_append]
      have : 1 ≤ (wrtC a).length := by unfold wrtC; split <;> simp
      omega
  · simp
theorem wrt_len : ∀ (ps : List Pc) (l : Bool), pcsB l ps = true → ps.length ≤ (wrt ps).length
  | [], _, _ => Nat.zero_le _
  | p :: r, l, h => by
    rw [pcsB, Bool.and_eq_true, Bool.and_eq_true] at h
    have h1 := wrtP_pos h.1.1
    have h2 := wrt_len r _ h.2
    unfold wrt at h2 ⊢
    rw [List.flatMap_cons, List.length_append, List.length_cons]
    omega
theorem pcs_mem : ∀ (ps : List Pc) (l : Bool), pcsB l ps = true → ∀ p ∈ ps, pieceB p = true
  | [], _, _, p, hp => by cases hp
  | q :: r, l, h, p, hp => by
    rw [pcsB, Bool.and_eq_true, Bool.and_eq_true] at h
    rcases List.mem_cons.1 hp with rfl | hp
    · exact h.1.1
    · exact pcs_mem r _ h.2 p hp
theorem right_mem {ps : List Pc} (h : rightB ps = true) : ∀ p ∈ ps, pieceB p = true := by
  unfold rightB at h
  rw [Bool.and_eq_true] at h
  exact pcs_mem ps _ h.1
/-- A part of a text, between two places. -/
def seg (s : List UInt8) (i j : Nat) : List UInt8 := (s.take j).drop i
end Go.Proofs.YtgnjakaamgeibaaGreatDoor
