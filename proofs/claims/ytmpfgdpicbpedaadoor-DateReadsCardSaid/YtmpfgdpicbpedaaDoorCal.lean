/-
  The calendar: plain numbers. Nothing of the program is imported. Conditions: none.
-/
import Derived.Lib.Hide
namespace Go.Proofs.YtmpfgdpicbpedaaDoor

def leapB (y : Int) : Bool := (decide (y % 4 = 0) && !decide (y % 100 = 0)) || decide (y % 400 = 0)
def lp (y : Int) : Int := if leapB y then 1 else 0
/-- The days of a month. -/
def dim (y m : Int) : Int := if m = 2 then 28 + lp y else if m = 4 ∨ m = 6 ∨ m = 9 ∨ m = 11 then 30 else 31
/-- The dates before a year. -/
def bef (y : Int) : Int := 365 * (y - 1) + (y - 1) / 4 - (y - 1) / 100 + (y - 1) / 400
/-- The days of a year before a month. -/
def cum (y m : Int) : Int :=
  if m ≤ 1 then 0 else if m = 2 then 31 else
  (if m = 3 then 59 else if m = 4 then 90 else if m = 5 then 120 else if m = 6 then 151 else if m = 7 then 181 else if m = 8 then 212 else if m = 9 then 243 else if m = 10 then 273 else if m = 11 then 304 else if m = 12 then 334 else 365) + lp y
def num (y m d : Int) : Int := bef y + cum y m + d - 1
/-- There is such a date. -/
def vldB (y m d : Int) : Bool := decide (1 ≤ y ∧ y ≤ 9999 ∧ 1 ≤ m ∧ m ≤ 12 ∧ 1 ≤ d ∧ d ≤ dim y m)

theorem lp_01 (y : Int) : 0 ≤ lp y ∧ lp y ≤ 1 := by unfold lp; split <;> omega
theorem dim_bd (y m : Int) : 28 ≤ dim y m ∧ dim y m ≤ 31 := by
  have := lp_01 y
  unfold dim
  split
  · omega
  · split <;> omega
theorem bef_succ (y : Int) : bef (y + 1) = bef y + 365 + lp y := by
  unfold bef lp leapB
  by_cases h1 : y % 4 = 0 <;> by_cases h2 : y % 100 = 0 <;> by_cases h3 : y % 400 = 0 <;> simp [h1, h2, h3] <;> omega
theorem cum_succ (y m : Int) (h1 : 1 ≤ m) (h2 : m ≤ 12) : cum y (m + 1) = cum y m + dim y m := by
  have hl := lp_01 y
  rcases (show m = 1 ∨ m = 2 ∨ m = 3 ∨ m = 4 ∨ m = 5 ∨ m = 6 ∨ m = 7 ∨ m = 8 ∨ m = 9 ∨ m = 10 ∨ m = 11 ∨ m = 12 by omega) with h | h | h | h | h | h | h | h | h | h | h | h <;> subst h <;> simp [cum, dim] <;> omega
theorem cum_bd (y m : Int) (h1 : 1 ≤ m) (h2 : m ≤ 13) : 0 ≤ cum y m ∧ cum y m ≤ 366 := by
  have hl := lp_01 y
  rcases (show m = 1 ∨ m = 2 ∨ m = 3 ∨ m = 4 ∨ m = 5 ∨ m = 6 ∨ m = 7 ∨ m = 8 ∨ m = 9 ∨ m = 10 ∨ m = 11 ∨ m = 12 ∨ m = 13 by omega) with h | h | h | h | h | h | h | h | h | h | h | h | h <;> subst h <;> simp [cum] <;> omega
theorem cum_one (y : Int) : cum y 1 = 0 := by simp [cum]
theorem cum_13 (y : Int) : cum y 13 = 365 + lp y := by simp [cum]
theorem cum_le (y : Int) : ∀ (k : Nat) (m : Int), 1 ≤ m → m + k ≤ 13 → cum y m ≤ cum y (m + k)
  | 0, m, _, _ => by simp
  | k + 1, m, h1, h2 => by
    have h := cum_le y k m h1 (by omega)
    have e := cum_succ y (m + k) (by omega) (by omega)
    have hd := dim_bd y (m + k)
    rw [show m + ((k + 1 : Nat) : Int) = m + k + 1 by omega, e]
    omega
theorem cum_mono (y m n : Int) (h1 : 1 ≤ m) (h : m ≤ n) (h2 : n ≤ 13) : cum y m ≤ cum y n := by
  have := cum_le y (n - m).toNat m h1 (by omega)
  rw [show m + ((n - m).toNat : Int) = n by omega] at this
  exact this
theorem bef_le : ∀ (k : Nat) (y : Int), bef y ≤ bef (y + k)
  | 0, y => by simp
  | k + 1, y => by
    have h := bef_le k y
    have e := bef_succ (y + k)
    have hd := lp_01 (y + k)
    rw [show y + ((k + 1 : Nat) : Int) = y + k + 1 by omega, e]
    omega
theorem bef_mono (y z : Int) (h : y ≤ z) : bef y ≤ bef z := by
  have := bef_le (z - y).toNat y
  rw [show y + ((z - y).toNat : Int) = z by omega] at this
  exact this
theorem bef_one : bef 1 = 0 := by decide
theorem bef_max : bef 10000 = 3652059 := by decide
theorem bef_bd (y : Int) (h1 : 1 ≤ y) (h2 : y ≤ 10000) : 0 ≤ bef y ∧ bef y ≤ 3652059 := by
  have a := bef_mono 1 y h1
  have b := bef_mono y 10000 h2
  rw [bef_one] at a
  rw [bef_max] at b
  exact ⟨a, b⟩
/-- The first guess of a year. -/
theorem bef_guess (n : Int) (h : 0 ≤ n) : bef (n / 366 + 1) ≤ n := by unfold bef; omega

theorem vld_iff {y m d : Int} : vldB y m d = true ↔ 1 ≤ y ∧ y ≤ 9999 ∧ 1 ≤ m ∧ m ≤ 12 ∧ 1 ≤ d ∧ d ≤ dim y m := by simp [vldB]
theorem num_lo {y m d : Int} (h : vldB y m d = true) : bef y ≤ num y m d ∧ num y m d < bef (y + 1) := by
  obtain ⟨h1, h2, h3, h4, h5, h6⟩ := vld_iff.1 h
  have c1 := cum_succ y m h3 h4
  have c2 := cum_mono y (m + 1) 13 (by omega) (by omega) (by omega)
  have c3 := cum_13 y
  have c4 := cum_bd y m h3 (by omega)
  have c5 := bef_succ y
  unfold num
  omega
theorem num_bd {y m d : Int} (h : vldB y m d = true) : 0 ≤ num y m d ∧ num y m d ≤ 3652058 := by
  obtain ⟨h1, h2, -⟩ := vld_iff.1 h
  have a := num_lo h
  have b := bef_bd y h1 (by omega)
  have c := bef_bd (y + 1) (by omega) (by omega)
  omega
/-- A number has one date. -/
theorem num_inj {y m d z n e : Int} (h : vldB y m d = true) (k : vldB z n e = true) (he : num y m d = num z n e) : y = z ∧ m = n ∧ d = e := by
  have a := num_lo h
  have b := num_lo k
  have hy : y = z := by
    rcases (show y < z ∨ y = z ∨ z < y by omega) with g | g | g
    · have := bef_mono (y + 1) z (by omega)
      omega
    · exact g
    · have := bef_mono (z + 1) y (by omega)
      omega
  subst hy
  obtain ⟨h1, h2, h3, h4, h5, h6⟩ := vld_iff.1 h
  obtain ⟨k1, k2, k3, k4, k5, k6⟩ := vld_iff.1 k
  have hm : m = n := by
    unfold num at he
    rcases (show m < n ∨ m = n ∨ n < m by omega) with g | g | g
    · have c1 := cum_succ y m h3 h4
      have c2 := cum_mono y (m + 1) n (by omega) (by omega) (by omega)
      omega
    · exact g
    · have c1 := cum_succ y n k3 k4
      have c2 := cum_mono y (n + 1) m (by omega) (by omega) (by omega)
      omega
  subst hm
  unfold num at he
  exact ⟨rfl, rfl, by omega⟩

/-- A date so many months later. -/
def place (y m : Int) : Int := (y - 1) * 12 + m - 1
/-- The result of Months at a date. -/
def later (y m d k : Int) : Option Int :=
  let p := place y m + k
  if 0 ≤ p ∧ p ≤ 119987 then some (num (p / 12 + 1) (p % 12 + 1) (min d (dim (p / 12 + 1) (p % 12 + 1)))) else none
end Go.Proofs.YtmpfgdpicbpedaaDoor
