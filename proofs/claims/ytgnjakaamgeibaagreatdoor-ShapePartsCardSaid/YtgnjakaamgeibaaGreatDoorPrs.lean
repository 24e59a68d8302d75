/-
  Written forms that are read: plain lists. Nothing of the program is imported. Conditions: none.
-/
import Derived.Test.YtgnjakaamgeibaaGreatDoorPat
namespace Go.Proofs.YtgnjakaamgeibaaGreatDoor
def dgtB (c : UInt8) : Bool := decide (48 ≤ c.toNat ∧ c.toNat ≤ 57)
/-- What is left where it fails; or a number and what is left. z: the first digit is 0; k: so many digits are read. -/
def numG : Bool → Nat → Int → List UInt8 → Sum (List UInt8) (Int × List UInt8)
  | _, k, n, [] => if k = 0 then .inl [] else .inr (n, [])
  | z, k, n, c :: u => if dgtB c then (if k ≠ 0 ∧ z = true then .inl (c :: u) else numG (if k = 0 then c == 48 else z) (k + 1) (min (n * 10 + ((c.toNat : Int) - 48)) 201) u) else if k = 0 then .inl (c :: u) else .inr (n, c :: u)
def numR (t : List UInt8) : Sum (List UInt8) (Int × List UInt8) := numG false 0 0 t
def brE (t : List UInt8) (a b : Int) : List UInt8 → Sum (List UInt8 × Int) (Int × Int × List UInt8)
  | 125 :: u => if b < a ∨ b = 0 ∨ 200 < b then .inl (123 :: t, 3) else .inr (a, b, u)
  | r => .inl (r, 12)
def brM (t : List UInt8) (a : Int) : List UInt8 → Sum (List UInt8 × Int) (Int × Int × List UInt8)
  | 44 :: u => match numR u with | .inl r => .inl (r, 12) | .inr (b, r) => brE t a b r
  | r => brE t a a r
/-- A count in braces, behind the first one. -/
def brR (t : List UInt8) : Sum (List UInt8 × Int) (Int × Int × List UInt8) := match numR t with | .inl r => .inl (r, 12) | .inr (a, r) => brM t a r
def cntR : List UInt8 → Sum (List UInt8 × Int) (Int × Int × List UInt8)
  | 43 :: u => .inr (1, 200, u)
  | 42 :: u => .inr (0, 200, u)
  | 123 :: u => brR u
  | t => .inr (1, 1, t)
def clsOf (c : UInt8) : Nat := if c = 100 then 1 else if c = 117 then 2 else if c = 108 then 3 else if c = 97 then 4 else if c = 115 then 5 else if c = 111 then 6 else if c = 46 then 7 else 0
/-- What may follow a count. -/
def NoCnt (r : List UInt8) : Prop := ∀ c u, r = c :: u → c ≠ 43 ∧ c ≠ 42 ∧ c ≠ 123
theorem cntR_no {r : List UInt8} (h : NoCnt r) : cntR r = .inr (1, 1, r) := by
  unfold cntR
  split
  · exact absurd rfl (h _ _ rfl).1
  · exact absurd rfl (h _ _ rfl).2.1
  · exact absurd rfl (h _ _ rfl).2.2
  · rfl
end Go.Proofs.YtgnjakaamgeibaaGreatDoor
