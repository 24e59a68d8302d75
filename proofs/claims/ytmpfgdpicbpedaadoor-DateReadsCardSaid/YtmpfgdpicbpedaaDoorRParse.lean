/-
  Parse of the reference: the plain part. Conditions: none.
-/
import Derived.Test.YtmpfgdpicbpedaaDoorRTxt
namespace Go.Proofs.YtmpfgdpicbpedaaDoor
open Go.RowKit Go.Shelf

theorem pad_val_aux : ∀ (k : Nat) (l : List UInt8), l.length = k → l.all digB = true → pad (val l) k = l
  | 0, l, hk, _ => by
    obtain rfl := List.eq_nil_of_length_eq_zero hk
    exact pad_zero
  | k + 1, l, hk, h => by
    have hne : l ≠ [] := by intro e; rw [e] at hk; simp at hk
    obtain ⟨r, c, rfl⟩ : ∃ r c, l = r ++ [c] := ⟨l.dropLast, l.getLast hne, (List.dropLast_concat_getLast hne).symm⟩
    rw [List.all_append, Bool.and_eq_true] at h
    have hc : 48 ≤ c.toNat ∧ c.toNat ≤ 57 := by simpa [digB] using h.2
    have hr : r.length = k := by simpa using hk
    have ih := pad_val_aux k r hr h.1
    rw [val_snoc, pad_step _ _ (by omega), show (val r * 10 + (c.toNat - 48)) / 10 = val r by omega, show k + 1 - 1 = k from rfl, ih]
    have hd : dig (val r * 10 + (c.toNat - 48)) = c := by
      apply UInt8.toNat_inj.1
      rw [dig_nat]
      omega
    rw [hd]
theorem pad_val {l : List UInt8} (h : l.all digB = true) : pad (val l) l.length = l := pad_val_aux _ _ rfl h

/-- What Parse of the reference asks of a text. -/
theorem iso_iff {s : List UInt8} {n : Int} : IsDay isoL s n ↔ s.length = 10 ∧ s[4]? = some 45 ∧ s[7]? = some 45 ∧ (s.take 4).all digB = true ∧ ((s.drop 5).take 2).all digB = true ∧ (s.drop 8).all digB = true ∧ Civ n (val (s.take 4) : Nat) (val ((s.drop 5).take 2) : Nat) (val (s.drop 8) : Nat) := by
  constructor
  · rintro ⟨-, y, m, d, hc, rfl⟩
    obtain ⟨y', m', d', h1, h2, h3, b1, b2, b3⟩ := hc.nat
    have hy : y < 10000 := by omega
    have hm : m < 100 := by omega
    have hd : d < 100 := by omega
    have v4 := val_four y hy
    have v2 := val_two m hm
    have v3 := val_two d hd
    rw [pad_four y hy] at v4
    rw [pad_two m hm] at v2
    rw [pad_two d hd] at v3
    rw [isoP, pad_four y hy, pad_two m hm, pad_two d hd]
    refine ⟨rfl, rfl, rfl, ?_, ?_, ?_, ?_⟩
    · simp [digB_dig]
    · simp [digB_dig]
    · simp [digB_dig]
    · show Civ n (val [dig (y / 10 / 10 / 10), dig (y / 10 / 10), dig (y / 10), dig y] : Nat) (val [dig (m / 10), dig m] : Nat) (val [dig (d / 10), dig d] : Nat)
      rw [v4, v2, v3]
      exact hc
  · rintro ⟨hl, h4, h7, ha, hb, hcc, hciv⟩
    refine ⟨iso_right, _, _, _, hciv, ?_⟩
    match s, hl with
    | [a0, a1, a2, a3, a4, a5, a6, a7, a8, a9], _ =>
      have e4 : a4 = 45 := by simpa using h4
      have e7 : a7 = 45 := by simpa using h7
      subst e4; subst e7
      have p1 := pad_val ha
      have p2 := pad_val hb
      have p3 := pad_val hcc
      rw [isoP]
      rw [show pad (val ([a0, a1, a2, a3, 45, a5, a6, 45, a8, a9].take 4)) 4 = _ from p1, show pad (val (([a0, a1, a2, a3, 45, a5, a6, 45, a8, a9].drop 5).take 2)) 2 = _ from p2, show pad (val ([a0, a1, a2, a3, 45, a5, a6, 45, a8, a9].drop 8)) 2 = _ from p3]
      rfl
end Go.Proofs.YtmpfgdpicbpedaaDoor
