/-
  The law DiskFails: what its code does. Conditions: none beyond the arguments in memory.
-/
import Derived.Test.YtehdjajeonemoaaLawPlays
import Derived.Test.YtehdjajeonemoaaPlain30
import Derived.Test.YtehdjajeonemoaaRow
namespace Go.Proofs.Ytehdjajeonemoaa
open Go.RowKit

theorem wf_u8 {n : Int} (h : (Lit.int .u8 n).wf = true) : 0 ≤ n ∧ n ≤ 255 := by
  have h' : IntKind.u8.min ≤ n ∧ n ≤ IntKind.u8.max := by simpa [Lit.wf] using h
  exact h'
theorem wf_u32 {n : Int} (h : (Lit.int .u32 n).wf = true) : 0 ≤ n ∧ n ≤ 4294967295 := by
  have h' : IntKind.u32.min ≤ n ∧ n ≤ IntKind.u32.max := by simpa [Lit.wf] using h
  exact h'
theorem Own.dmore {w0 w : World} {L : List Thing} {d n n' : Nat} {D : Dk} (h : Own w0 L w) (i : Nat) (hi : L[i]? = some (diskT d D n)) (hn : n ≤ n') : Own w0 (L.set i (diskT d D n')) w := by
  obtain ⟨F, ⟨c, s, p, hd, hok, hfit, rfl⟩, _, ht⟩ := h.turn hi
  exact ht _ _ w ⟨c, s, p, hd, hok, hfit.mono hn, rfl⟩ (Frm.refl _ _) (Sub.refl _ _)

set_option maxRecDepth 100000 in
set_option maxHeartbeats 4000000 in
theorem law_fails (n bits more : Int) (w : World) (hn : 0 ≤ n ∧ n ≤ 255) (_hbits : 0 ≤ bits ∧ bits ≤ 4294967295) (hmore : 0 ≤ more ∧ more ≤ 255) :
    Calls Try.prog 7 #[.int .u8 n, .int .u32 bits, .int .u8 more] w fun e w' => e = .returned (.bool true) ∧ Frm (fun _ => False) w w' := by
  obtain ⟨N, hN⟩ : ∃ N : Nat, n % 30 = N := ⟨(n % 30).toNat, by omega⟩
  obtain ⟨M, hM⟩ : ∃ M : Nat, more % 5 = M := ⟨(more % 5).toNat, by omega⟩
  have hN30 : N < 30 := by omega
  have hM5 : M < 5 := by omega
  have HN := Lib.hid hN
  have HM := Lib.hid hM
  clear hN hM
  go_enter Try.func7, Try.ntmps7
  go_wp2_with fail
  refine (sanity_any _).mono ?_
  rintro e w1 ⟨rfl, f1⟩
  have h1 := (Own.start w).still f1
  clear f1
  go_wp2_with fail
  refine (own_new h1).mono ?_
  rintro e w2 ⟨d, rfl, h2⟩
  go_wp2_with fail
  rw [HN.out]
  refine (own_fail h2 0 rfl N 100 (by decide) (by omega)).mono ?_
  rintro e w3 ⟨rfl, h3⟩
  have g3 : Failing N 0 (Dk.new.fail N) := ⟨by show decide (0 ≤ (N : Int)) = true; simp, by show (N : Int).toNat = _; simp, by show 0 = _; omega, by show 0 ≤ _; omega⟩
  clear h1 h2
  obtain ⟨D0, hD0⟩ : ∃ D, D = Dk.new.fail N := ⟨_, rfl⟩
  rw [← hD0] at h3 g3
  clear hD0
  go_wp2_with fail
  go_loopw [10, 11] (fun si so wr => ∃ (i : Nat) (D : Dk), si = .int .i64 i ∧ i ≤ N + M + 1 ∧ Failing N i D ∧ Own w [diskT d D (100 + 2 * i)] wr) (fun i _ _ => N + M + 1 - (intOf i).toNat)
  case atStart => exact ⟨0, D0, rfl, Nat.zero_le _, g3, h3⟩
  case round =>
    obtain ⟨i, D, rfl, hi, hg, hO⟩ := hrel
    clear h3 g3
    by_cases hlt : i < N + M + 1
    · have hl : (i : Int) < (N : Int) + more % 5 + 1 := by rw [HM.out]; omega
      have sz : (⟨#[122]⟩ : ByteArray).size = 1 := rfl
      obtain ⟨s1, s2⟩ := hg.sync
      obtain ⟨t1, t2⟩ := hg.write 122 (by omega)
      have hcase : (N : Int) ≤ i ∧ (if N ≤ i then 70 else 0 : Int) = 70 ∨ ¬ ((N : Int) ≤ i) ∧ (if N ≤ i then 70 else 0 : Int) = 0 := by
        by_cases hm : N ≤ i
        · exact .inl ⟨by omega, if_pos hm⟩
        · exact .inr ⟨by omega, if_neg hm⟩
      rcases hcase with ⟨hm, hr⟩ | ⟨hm, hr⟩
      all_goals
        rw [hr] at s1 t1
        have S1 := Lib.hid s1
        have T1 := Lib.hid t1
        clear s1 t1 hr
        go_wp2_with fail
        · refine (own_sync hO 0 rfl (by omega)).mono ?_
          rintro e w5 ⟨rfl, h5⟩
          rw [S1.out]
          have h6 := h5.dmore (n' := 100 + 2 * (i + 1)) 0 rfl (by omega)
          clear hO h5
          go_wp2_with fail
          go_roundw
          case rel => exact ⟨i + 1, _, by go_num, by omega, s2, h6⟩
          case measure => simp [intOf]; omega
        · refine (own_write hO 0 rfl i ⟨#[122]⟩ (by omega) (by omega)).mono ?_
          rintro e w5 ⟨rfl, h5⟩
          rw [show (D.write i (⟨#[122]⟩ : ByteArray).data.toList).1 = _ from T1.out]
          have h6 := h5.dmore (n' := 100 + 2 * (i + 1)) 0 rfl (by omega)
          clear hO h5
          go_wp2_with fail
          go_roundw
          case rel => exact ⟨i + 1, _, by go_num, by omega, t2, h6⟩
          case measure => simp [intOf]; omega
    · obtain rfl : i = N + M + 1 := by omega
      have hl : ¬ (((N + M + 1 : Nat) : Int) < (N : Int) + more % 5 + 1) := by rw [HM.out]; omega
      have hc := hg.calls
      have hnow := hg.now
      have e1 : D.calls = N := by omega
      have e2 : (D.now.length : Int) ≤ N := by omega
      have hfree : (D.fail (-1)).off = false := rfl
      have sz : (⟨#[97, 103, 97, 105, 110]⟩ : ByteArray).size = 5 := rfl
      clear hc hnow hlt hi
      go_wp2_with fail
      refine (own_calls hO 0 rfl).mono ?_
      rintro e w4 ⟨rfl, rfl⟩
      rw [e1]
      go_wp2_with fail
      refine (own_size hO 0 rfl).mono ?_
      rintro e w4 ⟨rfl, rfl⟩
      go_wp2_with fail
      refine (own_fail hO 0 rfl (-1) 1000 (by omega) (by decide)).mono ?_
      rintro e w4 ⟨rfl, h4⟩
      have e3 : ((D.fail (-1)).write 0 (⟨#[97, 103, 97, 105, 110]⟩ : ByteArray).data.toList).1 = 0 := write_zero (by decide) (by decide) hfree
      have e4 : ((D.fail (-1)).write 0 (⟨#[97, 103, 97, 105, 110]⟩ : ByteArray).data.toList).2.calls = N + 1 := (calls_write (by decide) (by decide) hfree).trans (congrArg (· + 1) e1)
      have E4 := Lib.hid e4
      clear hO e1 hfree e4
      go_wp2_with fail
      refine (own_write h4 0 rfl 0 ⟨#[97, 103, 97, 105, 110]⟩ (by omega) (by decide)).mono ?_
      rintro e w5 ⟨rfl, h5⟩
      rw [e3]
      clear h4 e3
      go_wp2_with fail
      refine (own_calls h5 0 rfl).mono ?_
      rintro e w6 ⟨rfl, rfl⟩
      rw [E4.out]
      go_wp2_with fail
      go_ret
      exact ⟨rfl, h5.frm⟩
end Go.Proofs.Ytehdjajeonemoaa
