/-
  Decimals and counts: what the code of both sides does. Conditions: the package variable reads as the text lays it.
-/
import Derived.Test.YtgnjakaamgeibaaGreatDoorBld
import Derived.Lib.ItoaNum
import Derived.Deep.QuietTactic
import Derived.BigQuiet
import Derived.Laws.Strings2
namespace Go.Proofs.YtgnjakaamgeibaaGreatDoor
open Go.RowKit Go.Shelf
attribute [local go_sem] Oper.semAt_some
theorem dec_dec3 (n : Nat) (h : n ≤ 999) : Lib.decDigits n = dec3 n := by
  unfold dec3
  split
  · exact Lib.decDigits_one (by omega)
  split
  · exact Lib.decDigits_two (by omega) (by omega)
  · rw [Lib.decDigits, dif_neg (by omega), Lib.decDigits_two (by omega) (by omega)]
    rw [show n / 10 / 10 = n / 100 by omega]
    rfl
theorem frm_grow (w : World) (k : Nat) (os : Array Obj) : Frm (fun _ => False) w (Sort.grow (w.drewN k) os) := by
  refine ⟨rfl, rfl, rfl, ?_, fun i hi _ => ?_⟩
  · show w.heap.size ≤ (w.heap ++ os).size
    rw [Array.size_append]
    omega
  · show (w.heap ++ os)[i]? = w.heap[i]?
    rw [Array.getElem?_append_left hi]
theorem itoa_any (n : Int) (h0 : -9223372036854775808 ≤ n) (h1 : n ≤ 9223372036854775807) (w : World) (hT : Tabs w) : Calls Tryz.prog 54 #[.int .i64 n] w fun e w' => e = .returned (strV (Lib.itoa n)) ∧ Frm (fun _ => False) w w' := by
  refine (Tryz.strconv_Itoa n h0 h1 w hT.pow).mono ?_
  rintro e w' ⟨rfl, k, os, rfl⟩
  exact ⟨rfl, frm_grow w k os⟩
theorem itoa_nat (n : Nat) : Lib.itoa n = Lib.decDigits n := by
  unfold Lib.itoa
  rw [if_neg (by omega), Int.toNat_natCast]
set_option maxHeartbeats 1000000 in
theorem count_any (a b : Nat) (ha : a ≤ 200) (hb : b ≤ 200) (w : World) (hT : Tabs w) : Calls Tryz.prog 85 #[.int .i64 a, .int .i64 b] w fun e w' => e = .returned (strV (cntW a b)) ∧ Frm (fun _ => False) w w' := by
  unfold cntW
  by_cases h1 : a = 1 ∧ b = 1
  · obtain ⟨rfl, rfl⟩ := h1
    go_enter Tryz.func85, Tryz.ntmps85
    go_wp2_with fail
    go_ret
    exact ⟨rfl, Frm.refl _ _⟩
  rw [if_neg (by omega)]
  by_cases h2 : a = 1 ∧ b = 200
  · obtain ⟨rfl, rfl⟩ := h2
    go_enter Tryz.func85, Tryz.ntmps85
    go_wp2_with fail
    go_ret
    exact ⟨rfl, Frm.refl _ _⟩
  rw [if_neg (by omega)]
  by_cases h3 : a = 0 ∧ b = 200
  · obtain ⟨rfl, rfl⟩ := h3
    go_enter Tryz.func85, Tryz.ntmps85
    go_wp2_with fail
    go_ret
    exact ⟨rfl, Frm.refl _ _⟩
  rw [if_neg (by omega)]
  have sz : ∀ n, n ≤ 200 → (Lib.itoa (n : Nat)).length ≤ 3 := fun n hn => by
    rw [itoa_nat, dec_dec3 n (by omega)]
    unfold dec3
    split
    · simp
    split <;> simp
  have ia := itoa_any a (by omega) (by omega)
  have ib := itoa_any b (by omega) (by omega)
  have sa := sz a ha
  have sb := sz b hb
  have ra : Lib.itoa (a : Nat) = dec3 a := by rw [itoa_nat, dec_dec3 a (by omega)]
  have rb : Lib.itoa (b : Nat) = dec3 b := by rw [itoa_nat, dec_dec3 b (by omega)]
  rw [ra] at ia sa
  rw [rb] at ib sb
  unfold strV at ia ib
  obtain ⟨X, hX⟩ : ∃ X : ByteArray, X = ⟨(dec3 a).toArray⟩ := ⟨_, rfl⟩
  obtain ⟨Y, hY⟩ : ∃ Y : ByteArray, Y = ⟨(dec3 b).toArray⟩ := ⟨_, rfl⟩
  have hXs : X.size ≤ 3 := by rw [hX]; show (dec3 a).toArray.size ≤ _; rw [List.size_toArray]; exact sa
  have hYs : Y.size ≤ 3 := by rw [hY]; show (dec3 b).toArray.size ≤ _; rw [List.size_toArray]; exact sb
  rw [← hX] at ia
  rw [← hY] at ib
  have HX := Lib.hid hX
  have HY := Lib.hid hY
  have Ia := Lib.hid ia
  have Ib := Lib.hid ib
  have f1 : (a = 1 → b = 1 → False) ∧ (a = 1 → b = 200 → False) ∧ (a = 0 → b = 200 → False) := ⟨fun x y => h1 ⟨x, y⟩, fun x y => h2 ⟨x, y⟩, fun x y => h3 ⟨x, y⟩⟩
  have HF := Lib.hid f1
  clear sz ra rb sa sb hX hY ia ib h1 h2 h3 f1
  by_cases h4 : a = b
  · subst h4
    rw [if_pos rfl]
    unfold strV
    obtain ⟨R, hR⟩ : ∃ R : ByteArray, R = ⟨([123] ++ dec3 (a : Int).toNat ++ [125]).toArray⟩ := ⟨_, rfl⟩
    rw [← hR]
    have hres : R = ⟨#[123]⟩ ++ X ++ ⟨#[125]⟩ := by
      rw [hR, HX.out, Int.toNat_natCast]
      apply WideShapes.bytes_inj
      simp
    have Hres := Lib.hid hres
    clear hres hR
    by_cases ha1 : a = 1
    · exact (HF.out.1 ha1 ha1).elim
    · have e1 : ((a : Int) == 1) = false := by rw [beq_eq_false_iff_ne]; omega
      by_cases ha0 : a = 0
      · subst ha0
        go_enter Tryz.func85, Tryz.ntmps85
        go_wp2_with fail
        refine (Ia.out _ hT).mono ?_
        rintro e w1 ⟨rfl, f1⟩
        go_wp2_with fail
        go_ret
        exact ⟨by rw [Hres.out]; rfl, f1⟩
      · have e0 : ((a : Int) == 0) = false := by rw [beq_eq_false_iff_ne]; omega
        go_enter Tryz.func85, Tryz.ntmps85
        go_wp2_with fail
        refine (Ia.out _ hT).mono ?_
        rintro e w1 ⟨rfl, f1⟩
        go_wp2_with fail
        go_ret
        exact ⟨by rw [Hres.out]; rfl, f1⟩
  · rw [if_neg (by omega)]
    unfold strV
    obtain ⟨R, hR⟩ : ∃ R : ByteArray, R = ⟨([123] ++ dec3 (a : Int).toNat ++ [44] ++ dec3 (b : Int).toNat ++ [125]).toArray⟩ := ⟨_, rfl⟩
    rw [← hR]
    have hres : R = ⟨#[123]⟩ ++ X ++ ⟨#[44]⟩ ++ Y ++ ⟨#[125]⟩ := by
      rw [hR, HX.out, HY.out, Int.toNat_natCast, Int.toNat_natCast]
      apply WideShapes.bytes_inj
      simp
    have Hres := Lib.hid hres
    have e4 : ((a : Int) == (b : Int)) = false := by rw [beq_eq_false_iff_ne]; omega
    clear hres hR
    have tests : ((a : Int) == 1 && (b : Int) == 1) = false ∧ ((a : Int) == 1 && (b : Int) == 200) = false ∧ ((a : Int) == 0 && (b : Int) == 200) = false := by
      refine ⟨?_, ?_, ?_⟩
      · rw [Bool.eq_false_iff]
        intro h
        rw [Bool.and_eq_true, beq_iff_eq, beq_iff_eq] at h
        exact HF.out.1 (by omega) (by omega)
      · rw [Bool.eq_false_iff]
        intro h
        rw [Bool.and_eq_true, beq_iff_eq, beq_iff_eq] at h
        exact HF.out.2.1 (by omega) (by omega)
      · rw [Bool.eq_false_iff]
        intro h
        rw [Bool.and_eq_true, beq_iff_eq, beq_iff_eq] at h
        exact HF.out.2.2 (by omega) (by omega)
    have HTs := Lib.hid tests
    clear tests
    cases q1 : ((a : Int) == 1) <;> cases q2 : ((a : Int) == 0) <;> cases q3 : ((b : Int) == 1) <;> cases q4 : ((b : Int) == 200)
    all_goals
      have Q1 := Lib.hid HTs.out
      rw [q1, q2, q3, q4] at Q1
      first
      | (exfalso; have := Q1.out; revert this; decide)
      | (clear Q1
         go_enter Tryz.func85, Tryz.ntmps85
         go_wp2_with fail
         refine (Ia.out _ hT).mono ?_
         rintro e w1 ⟨rfl, f1⟩
         go_wp2_with fail
         refine (Ib.out _ (hT.frm f1)).mono ?_
         rintro e w2 ⟨rfl, f2⟩
         go_wp2_with fail
         go_ret
         exact ⟨by rw [Hres.out]; rfl, f1.trans f2⟩)
end Go.Proofs.YtgnjakaamgeibaaGreatDoor
