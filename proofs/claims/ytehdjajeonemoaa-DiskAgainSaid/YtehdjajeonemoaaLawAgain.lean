/-
  The law DiskAgain: what its code does. Conditions: none beyond the arguments in memory.
-/
import Derived.Test.YtehdjajeonemoaaLawPlays
import Derived.Test.YtehdjajeonemoaaPlain30
namespace Go.Proofs.Ytehdjajeonemoaa
open Go.RowKit

set_option maxRecDepth 100000 in
set_option maxHeartbeats 4000000 in
theorem law_again (ao : Option Addr) (cap : Nat) (l : List ActV) (aq : Option Addr) (capq : Nat) (q : List Int) (ap : Option Addr) (capp : Nat) (p : List Int) (w : World) (hl : ActsAt w ao l) (_hlen : l.length ≤ 9223372036854775807) (hq : IntsAt w aq q) (hqlen : q.length ≤ 9223372036854775807) (hp : IntsAt w ap p) (hplen : p.length ≤ 9223372036854775807) :
    Calls Try.prog 9 #[.slice ao l.length cap, .slice aq q.length capq, .slice ap p.length capp] w fun e w' => e = .returned (.bool true) ∧ Frm (fun _ => False) w w' := by
  have Hl := Lib.hid hl
  have Hq := Lib.hid hq
  have Hp := Lib.hid hp
  clear hl hq hp
  go_enter Try.func9, Try.ntmps9
  go_wp2_with fail
  refine (sanity_any w).mono ?_
  rintro e w1 ⟨rfl, f1⟩
  have h1 := (Own.start w).still f1
  clear f1
  go_wp2_with fail
  refine (own_new h1).mono ?_
  rintro e w2 ⟨d, rfl, h2⟩
  go_wp2_with fail
  refine (own_rnew h2).mono ?_
  rintro e w3 ⟨m, rfl, h3⟩
  have h4 := h3.box #[.pointer (some ⟨d, 0, none⟩), .pointer (some ⟨m, 0, none⟩)] 30
  clear h1 h2
  go_wp2_with fail
  obtain ⟨x, hx⟩ : ∃ x, x = w3.heap.size := ⟨_, rfl⟩
  obtain ⟨w4, hw4⟩ : ∃ w4, w4 = w3.alloc (.cells #[.pointer (some ⟨d, 0, none⟩), .pointer (some ⟨m, 0, none⟩)] 30) := ⟨_, rfl⟩
  rw [← hx, ← hw4] at h4 ⊢
  have h5 : Own w (deskL x d m Dk.new 0) w4 := h4
  clear h3 h4 hx hw4
  have f5 : Frm (fun _ => False) w w4 := h5.frm
  go_loopw [9] (fun si wr => ∃ (i d' m' : Nat) (D : Dk), si = .int .i64 i ∧ i ≤ l.length ∧ i ≤ 15 ∧ Own w (deskL x d' m' D (8 + 201 * i)) wr) (fun i _ => 15 - (intOf i).toNat)
  case atStart => exact ⟨0, d, m, Dk.new, rfl, Nat.zero_le _, Nat.zero_le _, Own.more (by omega) h5⟩
  case round =>
    obtain ⟨i, d', m', D, rfl, hil, hi40, hO⟩ := hrel
    clear h5
    by_cases hlt : i < l.length ∧ i < 15
    · obtain ⟨hlt, h40⟩ := hlt
      obtain ⟨b, o, rfl, c0, c1, c2, c3, hok⟩ := Hl.out.frm hO.frm i hlt
      have Hok := Lib.hid hok
      clear hok
      go_wp2_with fail
      refine (own_do hO l[i] Hok.out (by omega)).mono ?_
      rintro e w6 ⟨rfl, d2, m2, h6⟩
      clear hO c0 c1 c2 c3
      go_wp2_with fail
      go_roundw
      case rel => exact ⟨i + 1, d2, m2, _, by go_num, hlt, h40, h6⟩
      case measure => simp [intOf]; omega
    · have hcase : ¬ ((i : Int) < l.length) ∨ ((i : Int) < l.length ∧ ¬ ((i : Int) < 15)) := by omega
      obtain ⟨c0, -⟩ := Own.desk2 hO
      clear hlt f5
      rcases hcase with hge | ⟨hlt2, h40⟩
      all_goals
        go_wp2_with fail
        refine (own_crash hO 0 rfl (by omega) aq capq q (Hq.out.frm hO.frm (fun _ _ _ h => h)) hqlen).mono ?_
        rintro e w7 ⟨c, rfl, h7⟩
        clear hO c0
        go_wp2_with fail
        refine (own_crash h7 3 rfl (by omega) ap capp p (Hp.out.frm h7.frm (fun _ _ _ h => h)) hplen).mono ?_
        rintro e w8 ⟨c', rfl, h8⟩
        rw [crash_crash] at h8
        go_wp2_with fail
        refine (own_size h8 4 rfl).mono ?_
        rintro e w9 ⟨rfl, rfl⟩
        go_wp2_with fail
        refine (own_size h8 3 rfl).mono ?_
        rintro e w9 ⟨rfl, rfl⟩
        go_wp2_with fail
        refine (own_read h8 4 rfl 0 33554432 (by decide)).mono ?_
        rintro e w9 ⟨rfl, h9⟩
        go_wp2_with fail
        refine (own_read h9 3 rfl 0 33554432 (by decide)).mono ?_
        rintro e w10 ⟨rfl, h10⟩
        go_wp2_with fail
        refine (own_calls h10 4 rfl).mono ?_
        rintro e w11 ⟨rfl, rfl⟩
        have e0 : (((D.crash q).calls : Nat) : Int) = 0 := rfl
        rw [e0]
        clear h7 h8 h9 e0
        go_wp2_with fail
        go_ret
        exact ⟨rfl, h10.frm⟩
end Go.Proofs.Ytehdjajeonemoaa
