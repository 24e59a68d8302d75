/-
  The law DiskOwn: what its code does. Conditions: none beyond the arguments in memory.
-/
import Derived.Test.YtehdjajeonemoaaLawPlays
import Derived.Test.YtehdjajeonemoaaPlain30
namespace Go.Proofs.Ytehdjajeonemoaa
open Go.RowKit

theorem text_end (s : ByteArray) : (s.extract 0 150 ++ (⟨#[101, 110, 100]⟩ : ByteArray)).size ≤ 153 := by
  rw [ByteArray.size_append, ByteArray.size_extract]
  have : (⟨#[101, 110, 100]⟩ : ByteArray).size = 3 := rfl
  omega
theorem text_end2 (s : ByteArray) (h : s.size ≤ 150) : (s ++ (⟨#[101, 110, 100]⟩ : ByteArray)).size ≤ 153 := by
  rw [ByteArray.size_append]
  have : (⟨#[101, 110, 100]⟩ : ByteArray).size = 3 := rfl
  omega

set_option maxRecDepth 100000 in
set_option maxHeartbeats 4000000 in
theorem law_own (s : ByteArray) (aq : Option Addr) (capq : Nat) (q : List Int) (a b : Int) (w : World) (hs : s.size ≤ 9223372036854775807) (hq : IntsAt w aq q) (hqlen : q.length ≤ 9223372036854775807) (ha : -9223372036854775808 ≤ a ∧ a ≤ 9223372036854775807) (hb : -9223372036854775808 ≤ b ∧ b ≤ 9223372036854775807) :
    Calls Try.prog 8 #[.string s, .slice aq q.length capq, .agg #[.int .i64 a, .int .i64 b]] w fun e w' => e = .returned (.bool true) ∧ Frm (fun _ => False) w w' := by
  have Hq := Lib.hid hq
  have Ha := Lib.hid ha
  have Hb := Lib.hid hb
  clear hq ha hb
  have h0 := (Own.start w).box #[.int .i64 a, .int .i64 b] 42
  go_enter Try.func8, Try.ntmps8
  go_wp2_with fail
  refine (sanity_any _).mono ?_
  rintro e w1 ⟨rfl, f1⟩
  have h1 := h0.still f1
  clear f1 h0
  obtain ⟨z, hz⟩ : ∃ z, z = w.heap.size := ⟨_, rfl⟩
  rw [← hz] at h1 ⊢
  clear hz
  go_wp2_with fail
  refine (own_new h1).mono ?_
  rintro e w2 ⟨d, rfl, h2⟩
  have hmin : min (s.size : Int) 150 = ((min s.size 150 : Nat) : Int) := by omega
  go_wp2_with fail
  have hS := text_end s
  generalize s.extract 0 150 ++ (⟨#[101, 110, 100]⟩ : ByteArray) = S at hS ⊢
  rotate_left
  have hS := text_end2 s (by omega)
  generalize s ++ (⟨#[101, 110, 100]⟩ : ByteArray) = S at hS ⊢
  all_goals
    clear h1 hmin
    have ls : S.data.toList.length = S.size := size_toList S
    have e3 : (Dk.new.write 0 S.data.toList).1 = 0 := write_zero (by decide) (by omega) rfl
    refine (own_write h2 1 rfl 0 S (by omega) (by decide)).mono ?_
    rintro e w3 ⟨rfl, h3⟩
    rw [e3]
    obtain ⟨D1, hD1⟩ : ∃ D1, D1 = (Dk.new.write 0 S.data.toList).2 := ⟨_, rfl⟩
    have o1 : D1.limited = false := by rw [hD1, limited_write]; rfl
    rw [← hD1] at h3
    clear hD1 e3 h2 ls
    go_wp2_with fail
    have e4 : D1.sync.1 = 0 := by rw [sync_dk (off_free o1)]
    refine (own_sync h3 1 rfl (by omega)).mono ?_
    rintro e w4 ⟨rfl, h4⟩
    rw [e4]
    obtain ⟨D2, hD2⟩ : ∃ D2, D2 = D1.sync.2 := ⟨_, rfl⟩
    have o2 : D2.limited = false := by rw [hD2, limited_sync]; exact o1
    rw [← hD2] at h4
    clear hD2 e4 h3 o1
    obtain ⟨c0, c1, -⟩ := cells2 (h4.obj 0 rfl)
    go_wp2_with fail
    refine (mod_any a 100 _ (by decide) (by decide) Ha.out.1 Ha.out.2).mono ?_
    rintro e w5 ⟨rfl, rfl⟩
    have a0 : 0 ≤ a % 100 := Int.emod_nonneg _ (by omega)
    have a1 : a % 100 < 100 := Int.emod_lt_of_pos _ (by omega)
    go_wp2_with fail
    have e5 : (D2.write (a % 100) [110, 101, 119]).1 = 0 := write_zero a0 (by simp only [List.length_cons, List.length_nil]; omega) (off_free o2)
    refine (own_write h4 1 rfl (a % 100) ⟨#[110, 101, 119]⟩ (by have : (⟨#[110, 101, 119]⟩ : ByteArray).size = 3 := rfl; omega) (by omega)).mono ?_
    rintro e w6 ⟨rfl, h6⟩
    rw [show (D2.write (a % 100) (⟨#[110, 101, 119]⟩ : ByteArray).data.toList).1 = 0 from e5]
    obtain ⟨D3, hD3⟩ : ∃ D3, D3 = (D2.write (a % 100) (⟨#[110, 101, 119]⟩ : ByteArray).data.toList).2 := ⟨_, rfl⟩
    have o3 : D3.limited = false := by rw [hD3, limited_write]; exact o2
    rw [← hD3] at h6
    clear hD3 e5 h4 o2 c0 c1 a0 a1
    go_wp2_with fail
    refine (own_crash h6 1 rfl (by have : (⟨#[110, 101, 119]⟩ : ByteArray).size = 3 := rfl; omega) aq capq q (Hq.out.frm h6.frm (fun _ _ _ h => h)) hqlen).mono ?_
    rintro e w7 ⟨c, rfl, h7⟩
    clear h6
    go_wp2_with fail
    refine (own_read h7 1 rfl 0 500 (by decide)).mono ?_
    rintro e w8 ⟨rfl, h8⟩
    obtain ⟨R1, hR1⟩ : ∃ R : ByteArray, R = ⟨(D3.read 0 500).toArray⟩ := ⟨_, rfl⟩
    rw [← hR1]
    have HR1 := Lib.hid hR1
    clear h7 hR1
    obtain ⟨c0, c1, -⟩ := cells2 (h8.obj 0 rfl)
    go_wp2_with fail
    refine (mod_any b 100 _ (by decide) (by decide) Hb.out.1 Hb.out.2).mono ?_
    rintro e w9 ⟨rfl, rfl⟩
    have b0 : 0 ≤ b % 100 := Int.emod_nonneg _ (by omega)
    have b1 : b % 100 < 100 := Int.emod_lt_of_pos _ (by omega)
    go_wp2_with fail
    have e9 : ((D3.crash q).write (b % 100) [99, 114, 97, 115, 104]).1 = 0 := write_zero b0 (by simp only [List.length_cons, List.length_nil]; omega) (off_free rfl)
    have k9 : ((D3.crash q).write (b % 100) (⟨#[99, 114, 97, 115, 104]⟩ : ByteArray).data.toList).2.calls = 1 := calls_write b0 (by show b % 100 ≤ 16777216 - (5 : Int); omega) (off_free rfl)
    refine (own_write h8 2 rfl (b % 100) ⟨#[99, 114, 97, 115, 104]⟩ (by decide) (by omega)).mono ?_
    rintro e w10 ⟨rfl, h10⟩
    rw [show ((D3.crash q).write (b % 100) (⟨#[99, 114, 97, 115, 104]⟩ : ByteArray).data.toList).1 = 0 from e9]
    obtain ⟨D4, hD4⟩ : ∃ D4, D4 = ((D3.crash q).write (b % 100) (⟨#[99, 114, 97, 115, 104]⟩ : ByteArray).data.toList).2 := ⟨_, rfl⟩
    rw [← hD4] at h10 k9
    clear hD4 e9 h8 c0 c1 b0 b1
    go_wp2_with fail
    refine (own_read h10 2 rfl 0 500 (by decide)).mono ?_
    rintro e w11 ⟨rfl, h11⟩
    obtain ⟨R2, hR2⟩ : ∃ R : ByteArray, R = ⟨(D4.read 0 500).toArray⟩ := ⟨_, rfl⟩
    rw [← hR2]
    have HR2 := Lib.hid hR2
    clear h10 hR2
    go_wp2_with fail
    refine (own_read h11 1 rfl 0 500 (by decide)).mono ?_
    rintro e w12 ⟨rfl, h12⟩
    rw [← HR1.out]
    clear h11 HR1
    go_wp2_with fail
    have e13 : (D3.write 0 (⟨#[99, 104, 97, 110, 103, 101, 100, 32, 97, 103, 97, 105, 110]⟩ : ByteArray).data.toList).1 = 0 := write_zero (by decide) (by decide) (off_free o3)
    refine (own_write h12 1 rfl 0 ⟨#[99, 104, 97, 110, 103, 101, 100, 32, 97, 103, 97, 105, 110]⟩ (by have : (⟨#[99, 104, 97, 110, 103, 101, 100, 32, 97, 103, 97, 105, 110]⟩ : ByteArray).size = 13 := rfl; have : (⟨#[110, 101, 119]⟩ : ByteArray).size = 3 := rfl; omega) (by decide)).mono ?_
    rintro e w13 ⟨rfl, h13⟩
    rw [e13]
    clear h12 e13
    go_wp2_with fail
    refine (own_read h13 2 rfl 0 500 (by decide)).mono ?_
    rintro e w14 ⟨rfl, h14⟩
    rw [← HR2.out]
    clear h13 HR2
    go_wp2_with fail
    refine (own_calls h14 2 rfl).mono ?_
    rintro e w15 ⟨rfl, rfl⟩
    rw [k9]
    clear k9
    go_wp2_with fail
    go_ret
    exact ⟨rfl, h14.frm⟩
end Go.Proofs.Ytehdjajeonemoaa
