/-
  The law DiskReads: what its code does. Conditions: none beyond the arguments in memory.
-/
import Derived.Test.YtehdjajeonemoaaLawPlays
import Derived.Test.YtehdjajeonemoaaPlain30
namespace Go.Proofs.Ytehdjajeonemoaa
open Go.RowKit

theorem Own.desk4 {w0 w : World} {x d m n z : Nat} {D : Dk} {a b : Value} {t : TypeId} {L : List Thing} (h : Own w0 (deskL x d m D n ++ cellT z #[a, b] t :: L) w) :
    w.cell? ⟨x, 0, none⟩ = some (.pointer (some ⟨d, 0, none⟩)) ∧ w.cell? ⟨x, 1, none⟩ = some (.pointer (some ⟨m, 0, none⟩)) ∧ w.cell? ⟨z, 0, none⟩ = some a ∧ w.cell? ⟨z, 1, none⟩ = some b :=
  ⟨(cells2 (h.obj 2 rfl)).1, (cells2 (h.obj 2 rfl)).2.1, (cells2 (h.obj 3 rfl)).1, (cells2 (h.obj 3 rfl)).2.1⟩

theorem ActV.ok_of (k o n : Int) (t : ByteArray) (hk : -9223372036854775808 ≤ k ∧ k ≤ 9223372036854775807) (ho : -9223372036854775808 ≤ o ∧ o ≤ 9223372036854775807) (hn : -9223372036854775808 ≤ n ∧ n ≤ 9223372036854775807) (ht : t.size ≤ 9223372036854775807) : ActV.Ok ⟨k, o, n, t⟩ :=
  ⟨hk.1, hk.2, ho.1, ho.2, hn.1, hn.2, ht⟩

set_option maxRecDepth 100000 in
set_option maxHeartbeats 4000000 in
theorem law_reads (s : ByteArray) (at_ : Int) (a b : Int) (w : World) (hs : s.size ≤ 9223372036854775807) (hat : -9223372036854775808 ≤ at_ ∧ at_ ≤ 9223372036854775807) (ha : -9223372036854775808 ≤ a ∧ a ≤ 9223372036854775807) (hb : -9223372036854775808 ≤ b ∧ b ≤ 9223372036854775807) :
    Calls Try.prog 10 #[.string s, .int .i64 at_, .agg #[.int .i64 a, .int .i64 b]] w fun e w' => e = .returned (.bool true) ∧ Frm (fun _ => False) w w' := by
  have Hat := Lib.hid hat
  have Ha := Lib.hid ha
  have Hb := Lib.hid hb
  clear hat ha hb
  have h0 := (Own.start w).box #[.int .i64 a, .int .i64 b] 42
  go_enter Try.func10, Try.ntmps10
  go_wp2_with fail
  refine (sanity_any _).mono ?_
  rintro e w1 ⟨rfl, f1⟩
  have h1 := h0.still f1
  clear f1 h0
  obtain ⟨z, hz⟩ : ∃ z, z = w.heap.size := ⟨_, rfl⟩
  rw [← hz] at h1 ⊢
  clear hz
  go_wp2_with fail
  refine (own_new h1).mono ?_
  rintro e w2 ⟨d, rfl, h2⟩
  go_wp2_with fail
  refine (own_rnew h2).mono ?_
  rintro e w3 ⟨m, rfl, h3⟩
  have h4 := h3.box #[.pointer (some ⟨d, 0, none⟩), .pointer (some ⟨m, 0, none⟩)] 30
  clear h1 h2
  go_wp2_with fail
  obtain ⟨x, hx⟩ : ∃ x, x = w3.heap.size := ⟨_, rfl⟩
  obtain ⟨w4, hw4⟩ : ∃ w4, w4 = w3.alloc (.cells #[.pointer (some ⟨d, 0, none⟩), .pointer (some ⟨m, 0, none⟩)] 30) := ⟨_, rfl⟩
  rw [← hx, ← hw4] at h4 ⊢
  have h5 : Own w (deskL x d m Dk.new 0 ++ [cellT z #[.int .i64 a, .int .i64 b] 42]) w4 := Own.rot (L := deskL x d m Dk.new 0) h4
  clear h3 h4 hx hw4
  refine (mod_any at_ 8 _ (by decide) (by decide) Hat.out.1 Hat.out.2).mono ?_
  rintro e w5 ⟨rfl, rfl⟩
  have a0 : 0 ≤ at_ % 8 := Int.emod_nonneg _ (by omega)
  have a1 : at_ % 8 < 8 := Int.emod_lt_of_pos _ (by omega)
  go_wp2_with fail
  refine (own_do h5 ⟨0, 1 + at_ % 8, 0, s⟩ (ActV.ok_of 0 _ 0 s (by decide) (by omega) (by decide) hs) (by decide)).mono ?_
  rintro e w6 ⟨rfl, d2, m2, h6⟩
  clear h5 a0 a1
  have h7 := h6
  clear h6
  obtain ⟨D, hD⟩ : ∃ D, D = Dk.new.actV ⟨0, 1 + at_ % 8, 0, s⟩ := ⟨_, rfl⟩
  rw [← hD] at h7
  clear hD
  have k0 : 0 ≤ a % 230 := Int.emod_nonneg _ (by omega)
  have k1 : a % 230 < 230 := Int.emod_lt_of_pos _ (by omega)
  have b0 : 0 ≤ b % 20 := Int.emod_nonneg _ (by omega)
  have b1 : b % 20 < 20 := Int.emod_lt_of_pos _ (by omega)
  obtain ⟨c0, c1, -⟩ := cells2 (h7.obj 3 rfl)
  go_wp2_with fail
  refine (mod_any a 230 _ (by decide) (by decide) Ha.out.1 Ha.out.2).mono ?_
  rintro e w7 ⟨rfl, rfl⟩
  clear c0 c1
  have h8 := h7.drew
  clear h7
  go_upto_region 7 with fail
  simp only [List.append]
  go_region_held3 (fun w' => w'.cell? ⟨x, 0, none⟩ = some (.pointer (some ⟨d2, 0, none⟩)) ∧ w'.cell? ⟨x, 1, none⟩ = some (.pointer (some ⟨m2, 0, none⟩)) ∧ w'.cell? ⟨z, 0, none⟩ = some (.int .i64 a) ∧ w'.cell? ⟨z, 1, none⟩ = some (.int .i64 b))
    (first | exact Own.desk4 h14 | exact Own.desk4 h13 | exact Own.desk4 h12 | exact Own.desk4 h11 | exact Own.desk4 h10 | exact Own.desk4 h9 | exact Own.desk4 h8)
    (first
      | (go_at_call 28; refine (mod_any b 20 _ (by decide) (by decide) Hb.out.1 Hb.out.2).mono ?_; rintro e w9 ⟨rfl, rfl⟩)
      | (go_at_call 35; first
          | (refine (own_read h12 0 rfl _ _ (by omega)).mono ?_; rintro e w13 ⟨rfl, h13⟩)
          | (refine (own_read h10 0 rfl _ _ Hb.out.2).mono ?_; rintro e w11 ⟨rfl, h11⟩)
          | (refine (own_read h8 0 rfl _ _ Hb.out.2).mono ?_; rintro e w9 ⟨rfl, h9⟩))
      | (go_at_call 37; first
          | (refine (own_rread h13 1 rfl _ _ (by omega)).mono ?_; rintro e w14 ⟨rfl, h14⟩)
          | (refine (own_rread h11 1 rfl _ _ Hb.out.2).mono ?_; rintro e w12 ⟨rfl, h12⟩)
          | (refine (own_rread h9 1 rfl _ _ Hb.out.2).mono ?_; rintro e w10 ⟨rfl, h10⟩)))
  go_wp2_with fail
  go_ret
  exact ⟨rfl, h14.frm⟩
end Go.Proofs.Ytehdjajeonemoaa
