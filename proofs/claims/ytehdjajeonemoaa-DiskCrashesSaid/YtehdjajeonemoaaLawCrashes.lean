/-
  The law DiskCrashes: what its code does. Conditions: none beyond the arguments in memory.
-/
import Derived.Test.YtehdjajeonemoaaLawPlays
namespace Go.Proofs.Ytehdjajeonemoaa
open Go.RowKit

theorem survQ_length (n : Int) : (survQ n).length ≤ 9223372036854775807 := by
  unfold survQ
  have : ([n, n.tdiv 2, n.tdiv 3, n.tdiv 5, n.tdiv 7].take (n % 6).toNat).length ≤ 5 := by rw [List.length_take]; exact Nat.min_le_right _ _
  omega

set_option maxRecDepth 100000 in
set_option maxHeartbeats 4000000 in
theorem law_crashes (ao : Option Addr) (cap : Nat) (l : List ActV) (aq : Option Addr) (capq : Nat) (q : List Int) (b : Int) (w : World) (hl : ActsAt w ao l) (_hlen : l.length ≤ 9223372036854775807) (hq : IntsAt w aq q) (hqlen : q.length ≤ 9223372036854775807) (hb : -9223372036854775808 ≤ b ∧ b ≤ 9223372036854775807) :
    Calls Try.prog 4 #[.slice ao l.length cap, .slice aq q.length capq, .int .i64 b] w fun e w' => e = .returned (.bool true) ∧ Frm (fun _ => False) w w' := by
  have Hl := Lib.hid hl
  have Hq := Lib.hid hq
  have Hb := Lib.hid hb
  clear hl hq hb
  go_enter Try.func4, Try.ntmps4
  go_wp2_with fail
  refine (sanity_any w).mono ?_
  rintro e w1 ⟨rfl, f1⟩
  have h1 := (Own.start w).still f1
  clear f1
  go_wp2_with fail
  refine (own_new h1).mono ?_
  rintro e w2 ⟨d, rfl, h2⟩
  go_wp2_with fail
  refine (own_rnew h2).mono ?_
  rintro e w3 ⟨m, rfl, h3⟩
  have h4 := h3.box #[.pointer (some ⟨d, 0, none⟩), .pointer (some ⟨m, 0, none⟩)] 30
  clear h1 h2
  go_wp2_with fail
  obtain ⟨x, hx⟩ : ∃ x, x = w3.heap.size := ⟨_, rfl⟩
  obtain ⟨w4, hw4⟩ : ∃ w4, w4 = w3.alloc (.cells #[.pointer (some ⟨d, 0, none⟩), .pointer (some ⟨m, 0, none⟩)] 30) := ⟨_, rfl⟩
  rw [← hx, ← hw4] at h4 ⊢
  have h5 : Own w (deskL x d m Dk.new 0) w4 := h4
  clear h3 h4 hx hw4
  have f5 : Frm (fun _ => False) w w4 := h5.frm
  go_loopw [9] (fun si wr => ∃ (i d' m' : Nat) (D : Dk), si = .int .i64 i ∧ i ≤ l.length ∧ i ≤ 20 ∧ Own w (deskL x d' m' D (8 + 201 * i)) wr) (fun i _ => 20 - (intOf i).toNat)
  case atStart => exact ⟨0, d, m, Dk.new, rfl, Nat.zero_le _, Nat.zero_le _, Own.more (by omega) h5⟩
  case round =>
    obtain ⟨i, d', m', D, rfl, hil, hi40, hO⟩ := hrel
    clear h5
    by_cases hlt : i < l.length ∧ i < 20
    · obtain ⟨hlt, h40⟩ := hlt
      obtain ⟨b, o, rfl, c0, c1, c2, c3, hok⟩ := Hl.out.frm hO.frm i hlt
      have Hok := Lib.hid hok
      clear hok
      go_wp2_with fail
      refine (mod_any l[i].kind 5 _ (by decide) (by decide) Hok.out.k1 Hok.out.k2).mono ?_
      rintro e w5 ⟨rfl, rfl⟩
      go_wp2_with fail
      have hO2 := hO.alloc (.cells #[.int .i64 (l[i].kind % 5), .int .i64 l[i].off, .int .i64 l[i].n, .string l[i].text] 33)
      have b0 : 0 ≤ l[i].kind % 5 := Int.emod_nonneg _ (by omega)
      have b1 : l[i].kind % 5 < 5 := Int.emod_lt_of_pos _ (by omega)
      refine (own_do hO2 ⟨l[i].kind % 5, l[i].off, l[i].n, l[i].text⟩ ⟨Int.le_trans (by decide) b0, Int.le_trans (Int.le_of_lt b1) (by decide), Hok.out.o1, Hok.out.o2, Hok.out.n1, Hok.out.n2, Hok.out.t⟩ (by omega)).mono ?_
      rintro e w6 ⟨rfl, d2, m2, h6⟩
      clear hO c0 c1 c2 c3 hO2
      go_wp2_with fail
      go_roundw
      case rel => exact ⟨i + 1, d2, m2, _, by go_num, hlt, h40, h6⟩
      case measure => simp [intOf]; omega
    · have hcase : ¬ ((i : Int) < l.length) ∨ ((i : Int) < l.length ∧ ¬ ((i : Int) < 20)) := by omega
      have hOd := hO.drew
      clear hlt f5
      rcases hcase with hge | ⟨hlt2, h40⟩
      all_goals
        go_upto_region 13 with fail
        go_region_held3 (fun w' => w'.cell? ⟨x, 0, none⟩ = some (.pointer (some ⟨d', 0, none⟩)) ∧ w'.cell? ⟨x, 1, none⟩ = some (.pointer (some ⟨m', 0, none⟩)))
          (first | exact Own.desk2 (h8.box _ _) | exact Own.desk2 h8 | exact Own.desk2 h7 | exact Own.desk2 hOd)
          (first
            | (go_at_call 29; refine (own_crash hOd 0 rfl (by omega) aq capq q (Hq.out.frm hOd.frm (fun _ _ _ h => h)) hqlen).mono ?_; rintro e w7 ⟨d3, rfl, h7⟩)
            | (go_at_call 30; refine (own_rcrash h7 1 rfl (by omega) aq capq q (Hq.out.frm h7.frm (fun _ _ _ h => h)) hqlen).mono ?_; rintro e w8 ⟨m3, rfl, h8⟩))
        have h9 := h8.box #[.pointer (some ⟨d3, 0, none⟩), .pointer (some ⟨m3, 0, none⟩)] 30
        obtain ⟨x3, hx⟩ : ∃ x, x = w8.heap.size := ⟨_, rfl⟩
        obtain ⟨w9, hw9⟩ : ∃ w9, w9 = w8.alloc (.cells #[.pointer (some ⟨d3, 0, none⟩), .pointer (some ⟨m3, 0, none⟩)] 30) := ⟨_, rfl⟩
        rw [← hx, ← hw9] at h9 ⊢
        clear hO hOd h7 h8 hx hw9
        have h10 := h9.drew
        go_upto_region 14 with fail
        go_region_held3 (fun w' => w'.cell? ⟨x, 0, none⟩ = some (.pointer (some ⟨d', 0, none⟩)) ∧ w'.cell? ⟨x, 1, none⟩ = some (.pointer (some ⟨m', 0, none⟩)))
          (first | exact Own.desk2 (h14.box _ _) | exact Own.desk2 h14 | exact Own.desk2 h13 | exact Own.desk2 h12 | exact Own.desk2 h11 | exact Own.desk2 h10)
          (first
            | (go_at_call 31; first
                | (refine (survive_any b _ Hb.out.1 Hb.out.2).mono ?_; rintro e w11 ⟨a11, c11, rfl, q11, f11⟩; have h11 := h10.still f11)
                | (refine (survive_any b _ Hb.out.1 Hb.out.2).mono ?_; rintro e w13 ⟨a13, c13, rfl, q13, f13⟩; have h13 := h12.still f13))
            | (go_at_call 29; refine (own_crash h11 0 rfl (by omega) a11 c11 _ q11 (survQ_length b)).mono ?_; rintro e w12 ⟨d5, rfl, h12⟩)
            | (go_at_call 30; refine (own_rcrash h13 1 rfl (by omega) a13 c13 _ q13 (survQ_length b)).mono ?_; rintro e w14 ⟨m5, rfl, h14⟩))
        have h15 := h14.box #[.pointer (some ⟨d5, 0, none⟩), .pointer (some ⟨m5, 0, none⟩)] 30
        obtain ⟨x5, hx⟩ : ∃ x, x = w14.heap.size := ⟨_, rfl⟩
        obtain ⟨w15, hw15⟩ : ∃ w15, w15 = w14.alloc (.cells #[.pointer (some ⟨d5, 0, none⟩), .pointer (some ⟨m5, 0, none⟩)] 30) := ⟨_, rfl⟩
        rw [← hx, ← hw15] at h15 ⊢
        clear h9 h10 h11 h12 h13 h14 hx hw15 f11 f13 q11 q13
        go_wp2_with fail
        refine (own_same h15 3 4 5 rfl rfl rfl (by omega)).mono ?_
        rintro e w16 ⟨rfl, h16⟩
        go_wp2_with fail
        refine (own_same h16 6 7 8 rfl rfl rfl (by omega)).mono ?_
        rintro e w17 ⟨rfl, h17⟩
        go_wp2_with fail
        refine (own_same h17 0 1 2 rfl rfl rfl (by omega)).mono ?_
        rintro e w18 ⟨rfl, h18⟩
        clear h15 h16 h17
        go_wp2_with fail
        go_ret
        exact ⟨rfl, h18.frm⟩
end Go.Proofs.Ytehdjajeonemoaa
