/-
  The law DiskPlays: what its code does. Conditions: none beyond the argument in memory.
-/
import Derived.Test.YtehdjajeonemoaaActs
namespace Go.Proofs.Ytehdjajeonemoaa
open Go.RowKit

/-- The acts of a list, in memory. -/
def ActsAt (w : World) (ao : Option Addr) (l : List ActV) : Prop := ∀ i (h : i < l.length), ∃ b o, ao = some ⟨b, o, none⟩ ∧
  w.cell? ⟨b, o + i * 4, none⟩ = some (.int .i64 l[i].kind) ∧ w.cell? ⟨b, o + i * 4 + 1, none⟩ = some (.int .i64 l[i].off) ∧ w.cell? ⟨b, o + i * 4 + 2, none⟩ = some (.int .i64 l[i].n) ∧ w.cell? ⟨b, o + i * 4 + 3, none⟩ = some (.string l[i].text) ∧ l[i].Ok
theorem ActsAt.frm {w w' : World} {ao : Option Addr} {l : List ActV} (h : ActsAt w ao l) (hf : Frm (fun _ => False) w w') : ActsAt w' ao l := by
  intro i hi
  obtain ⟨b, o, h0, h1, h2, h3, h4, h5⟩ := h i hi
  exact ⟨b, o, h0, hf.cell h1 (fun h => h), hf.cell h2 (fun h => h), hf.cell h3 (fun h => h), hf.cell h4 (fun h => h), h5⟩

/-- The two cells of a desk. -/
theorem Own.desk2 {w0 w : World} {x d m n : Nat} {D : Dk} {L : List Thing} (h : Own w0 (deskL x d m D n ++ L) w) :
    w.cell? ⟨x, 0, none⟩ = some (.pointer (some ⟨d, 0, none⟩)) ∧ w.cell? ⟨x, 1, none⟩ = some (.pointer (some ⟨m, 0, none⟩)) :=
  ⟨(cells2 (h.obj 2 rfl)).1, (cells2 (h.obj 2 rfl)).2.1⟩

theorem Own.more {w0 w : World} {x d m n n' : Nat} {D : Dk} {L : List Thing} (hn : n ≤ n') (h : Own w0 (deskL x d m D n ++ L) w) : Own w0 (deskL x d m D n' ++ L) w := by
  obtain ⟨F, ⟨c, s, p, q, lf, hd, hok, hfit, l1, l2, rfl⟩, _, ht⟩ := h.close.turn (i := 0) rfl
  exact Own.open (ht (deskT x d m D n') _ w ⟨c, s, p, q, lf, hd, hok, hfit.mono hn, by omega, by omega, rfl⟩ (Frm.refl _ _) (Sub.refl _ _))

set_option maxRecDepth 100000 in
set_option maxHeartbeats 4000000 in
theorem law_plays (ao : Option Addr) (cap : Nat) (l : List ActV) (w : World) (hl : ActsAt w ao l) (_hlen : l.length ≤ 9223372036854775807) :
    Calls Try.prog 3 #[.slice ao l.length cap] w fun e w' => e = .returned (.bool true) ∧ Frm (fun _ => False) w w' := by
  have Hl := Lib.hid hl
  clear hl
  go_enter Try.func3, Try.ntmps3
  go_wp2_with fail
  refine (sanity_any w).mono ?_
  rintro e w1 ⟨rfl, f1⟩
  have h1 := (Own.start w).still f1
  clear f1
  go_wp2_with fail
  refine (own_new h1).mono ?_
  rintro e w2 ⟨d, rfl, h2⟩
  go_wp2_with fail
  refine (own_rnew h2).mono ?_
  rintro e w3 ⟨m, rfl, h3⟩
  have h4 := h3.box #[.pointer (some ⟨d, 0, none⟩), .pointer (some ⟨m, 0, none⟩)] 30
  clear h1 h2
  go_wp2_with fail
  obtain ⟨x, hx⟩ : ∃ x, x = w3.heap.size := ⟨_, rfl⟩
  obtain ⟨w4, hw4⟩ : ∃ w4, w4 = w3.alloc (.cells #[.pointer (some ⟨d, 0, none⟩), .pointer (some ⟨m, 0, none⟩)] 30) := ⟨_, rfl⟩
  rw [← hx, ← hw4] at h4 ⊢
  have h5 : Own w (deskL x d m Dk.new 0) w4 := h4
  clear h3 h4 hx hw4
  have f5 : Frm (fun _ => False) w w4 := h5.frm
  go_loopw [5] (fun si wr => ∃ (i d' m' : Nat) (D : Dk), si = .int .i64 i ∧ i ≤ l.length ∧ i ≤ 40 ∧ Own w (deskL x d' m' D (8 + 201 * i)) wr) (fun i _ => 40 - (intOf i).toNat)
  case atStart => exact ⟨0, d, m, Dk.new, rfl, Nat.zero_le _, Nat.zero_le _, Own.more (by omega) h5⟩
  case round =>
    obtain ⟨i, d', m', D, rfl, hil, hi40, hO⟩ := hrel
    clear h5
    by_cases hlt : i < l.length ∧ i < 40
    · obtain ⟨hlt, h40⟩ := hlt
      obtain ⟨b, o, rfl, c0, c1, c2, c3, hok⟩ := Hl.out.frm hO.frm i hlt
      have Hok := Lib.hid hok
      clear hok
      go_wp2_with fail
      refine (own_do hO l[i] Hok.out (by omega)).mono ?_
      rintro e w5 ⟨rfl, d2, m2, h6⟩
      have h7 := h6.drew
      clear hO c0 c1 c2 c3 h6 f5
      go_upto_region 9 with fail
      go_region_held3 (fun w' => w'.cell? ⟨x, 0, none⟩ = some (.pointer (some ⟨d2, 0, none⟩)) ∧ w'.cell? ⟨x, 1, none⟩ = some (.pointer (some ⟨m2, 0, none⟩)))
        (exact Own.desk2 h7)
        (first
          | (go_at_call 23; refine (own_size h7 0 rfl).mono ?_; rintro e w1 ⟨rfl, rfl⟩)
          | (go_at_call 24; refine (own_rsize h7 1 rfl).mono ?_; rintro e w1 ⟨rfl, rfl⟩)
          | (go_at_call 25; refine (own_calls h7 0 rfl).mono ?_; rintro e w1 ⟨rfl, rfl⟩)
          | (go_at_call 26; refine (own_rcalls h7 1 rfl).mono ?_; rintro e w1 ⟨rfl, rfl⟩))
      go_wp2_with fail
      go_roundw
      case rel => exact ⟨i + 1, d2, m2, _, by go_num, hlt, h40, h7⟩
      case measure => simp [intOf]; omega
    · rcases Nat.lt_or_ge i l.length with hlt2 | hge
      · have h40 : ¬ ((i : Int) < 40) := by omega
        clear hlt f5
        go_wp2_with fail
        refine (own_same hO 0 1 2 rfl rfl rfl (by omega)).mono ?_
        rintro e w6 ⟨rfl, h6⟩
        clear hO
        go_wp2_with fail
        go_ret
        exact ⟨rfl, h6.frm⟩
      · obtain rfl : i = l.length := by omega
        clear hlt f5
        go_wp2_with fail
        refine (own_same hO 0 1 2 rfl rfl rfl (by omega)).mono ?_
        rintro e w6 ⟨rfl, h6⟩
        clear hO
        go_wp2_with fail
        go_ret
        exact ⟨rfl, h6.frm⟩
end Go.Proofs.Ytehdjajeonemoaa
