/-
  The law DiskBytes: what its code does. Conditions: none beyond the arguments in memory.
-/
import Derived.Test.YtehdjajeonemoaaLawPlays
import Derived.Test.YtehdjajeonemoaaPlain30
namespace Go.Proofs.Ytehdjajeonemoaa
open Go.RowKit

theorem bytes_plan (L : List UInt8) (n o : Nat) (v : UInt8) (hL : L.length ≤ 200) (hn : n ≤ 200) (ho : o < 250) : ∃ D1 D2 D3 : Dk, Dk.new.write 0 L = (0, D1) ∧ D1.sync = (0, D2) ∧ D2.write o (List.replicate n v) = (0, D3) ∧ ∀ q, Between L o n v (D3.crash q).now := by
  refine ⟨_, _, _, write_dk (by omega) (by omega) rfl, sync_dk rfl, write_dk (by omega) (by rw [List.length_replicate]; omega) rfl, fun q => crash_between _ L o n v q ?_ ?_⟩
  · show putL [] (0 : Int).toNat L = L
    exact putL_nil0 L
  · show [] ++ cut (List.replicate n v).length (o : Int).toNat (List.replicate n v) = _
    rw [List.nil_append, List.length_replicate, Int.toNat_natCast]

theorem between_at {S G : ByteArray} {C : List UInt8} {o n : Nat} (h : Between S.data.toList o n 238 C) (hG : G.data.toList = C) (k : Nat) (hk : k < G.size) :
    (∃ hs : k < S.size, ((G[k].toNat : Int) == (S[k].toNat : Int)) = true) ∨ (o ≤ k ∧ k < o + n ∧ ((G[k].toNat : Int) == 238) = true) ∨ (S.size ≤ k ∧ ((G[k].toNat : Int) == 0) = true) := by
  subst hG
  have e : G.data.toList.getD k 0 = G[k] := by
    rw [List.getD, List.getElem?_eq_getElem (by rw [size_toList]; exact hk)]
    simp
    rfl
  rcases h.at_ k (by rw [size_toList]; exact hk) with ⟨h1, h2⟩ | ⟨h1, h2, h3⟩ | ⟨h1, h2⟩
  · rw [size_toList] at h1
    have e2 : S.data.toList.getD k 0 = S[k] := by
      rw [List.getD, List.getElem?_eq_getElem (by rw [size_toList]; exact h1)]
      simp
      rfl
    rw [e, e2] at h2
    exact .inl ⟨h1, by rw [h2]; simp⟩
  · rw [e] at h3
    exact .inr (.inl ⟨h1, h2, by rw [h3]; rfl⟩)
  · rw [e] at h2
    rw [size_toList] at h1
    exact .inr (.inr ⟨h1, by rw [h2]; rfl⟩)

set_option maxRecDepth 100000 in
set_option maxHeartbeats 4000000 in
theorem law_bytes (s : ByteArray) (a b : Int) (aq : Option Addr) (capq : Nat) (q : List Int) (w : World) (hs : s.size ≤ 9223372036854775807) (ha : -9223372036854775808 ≤ a ∧ a ≤ 9223372036854775807) (hb : -9223372036854775808 ≤ b ∧ b ≤ 9223372036854775807) (hq : IntsAt w aq q) (hqlen : q.length ≤ 9223372036854775807) :
    Calls Try.prog 5 #[.string s, .agg #[.int .i64 a, .int .i64 b], .slice aq q.length capq] w fun e w' => e = .returned (.bool true) ∧ Frm (fun _ => False) w w' := by
  have Hq := Lib.hid hq
  have Ha := Lib.hid ha
  have Hb := Lib.hid hb
  clear hq ha hb
  have h0 := (Own.start w).box #[.int .i64 a, .int .i64 b] 42
  go_enter Try.func5, Try.ntmps5
  go_wp2_with fail
  refine (sanity_any _).mono ?_
  rintro e w1 ⟨rfl, f1⟩
  have h1 := h0.still f1
  clear f1 h0
  obtain ⟨z, hz⟩ : ∃ z, z = w.heap.size := ⟨_, rfl⟩
  rw [← hz] at h1 ⊢
  clear hz
  go_wp2_with fail
  refine (own_new h1).mono ?_
  rintro e w2 ⟨d, rfl, h2⟩
  obtain ⟨c0, c1, -⟩ := cells2 (h2.obj 0 rfl)
  go_wp2_with fail
  have hS : (s.extract 0 200).size ≤ 200 := by rw [ByteArray.size_extract]; omega
  generalize s.extract 0 200 = S at hS ⊢
  rotate_left
  have hS : s.size ≤ 200 := by omega
  generalize s = S at hS ⊢
  all_goals
    clear h1
    obtain ⟨o, ho⟩ : ∃ o : Nat, a % 250 = o := ⟨(a % 250).toNat, by have := Int.emod_nonneg a (show (250 : Int) ≠ 0 by decide); omega⟩
    have ho250 : o < 250 := by have := Int.emod_lt_of_pos a (show (0 : Int) < 250 by decide); omega
    obtain ⟨n, hn⟩ : ∃ n : Nat, 1 + b % 200 = n := ⟨(1 + b % 200).toNat, by have := Int.emod_nonneg b (show (200 : Int) ≠ 0 by decide); omega⟩
    have hn200 : n ≤ 200 := by have := Int.emod_lt_of_pos b (show (0 : Int) < 200 by decide); omega
    have Hn := Lib.hid hn
    clear hn
    refine (mod_any a 250 _ (by decide) (by decide) Ha.out.1 Ha.out.2).mono ?_
    rintro e w3 ⟨rfl, rfl⟩
    rw [ho]
    clear ho
    go_wp2_with fail
    refine (mod_any b 200 _ (by decide) (by decide) Hb.out.1 Hb.out.2).mono ?_
    rintro e w3 ⟨rfl, rfl⟩
    have y1 : IntKind.i64.wrap (1 + b % 200) = (n : Int) := by rw [Hn.out]; exact IntWalk.i64_in _ (by omega)
    go_wp2_with fail
    refine (repeated_any 238 n _ (by omega)).mono ?_
    rintro e w4 ⟨rfl, f4⟩
    have h4 := h2.still f4
    clear f4 h2 c0 c1 y1
    obtain ⟨T, hT⟩ : ∃ T : ByteArray, T = ⟨(List.replicate n 238).toArray⟩ := ⟨_, rfl⟩
    have hTs : T.size = n := by rw [hT]; show (List.replicate n (238 : UInt8)).toArray.size = n; simp
    have hTl : T.data.toList = List.replicate n 238 := by rw [hT]
    rw [show strV (List.replicate n 238) = .string T from by rw [hT]; rfl]
    clear hT
    obtain ⟨D1, D2, D3, e1, e2, e3, hBt⟩ := bytes_plan S.data.toList n o 238 (by rw [size_toList]; exact hS) hn200 ho250
    rw [← hTl] at e3
    have hB := hBt q
    obtain ⟨C, hC⟩ : ∃ C, C = (D3.crash q).now := ⟨_, rfl⟩
    rw [← hC] at hB
    have hlo := hB.lo
    have hhi := hB.hi
    rw [size_toList] at hlo hhi
    obtain ⟨G, hG⟩ : ∃ G : ByteArray, G = ⟨C.toArray⟩ := ⟨_, rfl⟩
    have hGs : G.size = C.length := by rw [hG]; show C.toArray.size = _; simp
    have hGl : G.data.toList = C := by rw [hG]
    have rd : (⟨((D3.crash q).read 0 (G.size : Int)).toArray⟩ : ByteArray) = G := by rw [read_all (D3.crash q) G.size (by rw [hGs, hC]), ← hC, hG]
    have sz : (D3.crash q).now.length = G.size := by rw [← hC, hGs]
    rw [← hGs] at hlo hhi
    have E1 := Lib.hid e1
    have E2 := Lib.hid e2
    have E3 := Lib.hid e3
    have Rd := Lib.hid rd
    have Sz := Lib.hid sz
    have HB := Lib.hid hB
    have HC := Lib.hid hC
    have HG := Lib.hid hG
    have HGl := Lib.hid hGl
    have HGs := Lib.hid hGs
    clear e1 e2 e3 hBt hB hC hG hGs hGl rd sz hTl
    go_wp2_with fail
    refine (own_write_eq h4 1 rfl 0 S (by omega) (by decide) E1.out rfl).mono ?_
    rintro e w5 ⟨rfl, h5⟩
    go_wp2_with fail
    refine (own_sync_eq h5 1 rfl (by omega) E2.out rfl).mono ?_
    rintro e w6 ⟨rfl, h6⟩
    go_wp2_with fail
    refine (own_write_eq h6 1 rfl o T (by omega) (by omega) E3.out rfl).mono ?_
    rintro e w7 ⟨rfl, h7⟩
    go_wp2_with fail
    refine (own_crash h7 1 rfl (by omega) aq capq q (Hq.out.frm h7.frm (fun _ _ _ h => h)) hqlen).mono ?_
    rintro e w8 ⟨c, rfl, h8⟩
    clear h4 h5 h6 h7
    go_wp2_with fail
    refine (own_size h8 2 rfl).mono ?_
    rintro e w9 ⟨rfl, rfl⟩
    rw [Sz.out]
    have t1 : ¬ ((G.size : Int) < S.size) := by omega
    have y2 : IntKind.i64.wrap ((o : Int) + n) = (o : Int) + n := IntWalk.i64_in _ (by omega)
    go_wp2_with fail
    refine (own_size h8 2 rfl).mono ?_
    rintro e w9 ⟨rfl, rfl⟩
    rw [Sz.out]
    have hmx : (G.size : Int) ≤ max (S.size : Int) ((o : Int) + n) := by omega
    go_wp2_with fail
    all_goals
      refine (own_size h8 2 rfl).mono ?_
      rintro e w9 ⟨rfl, rfl⟩
      rw [Sz.out]
      go_wp2_with fail
      refine (own_read_eq h8 2 rfl 0 _ (by omega) Rd.out).mono ?_
      rintro e w10 ⟨rfl, h9⟩
      go_wp2_with fail
      refine (own_size h9 2 rfl).mono ?_
      rintro e w9 ⟨rfl, rfl⟩
      rw [Sz.out]
      clear h8 t1 y2 hmx
      go_wp2_with fail
      have f9 := h9.frm
      clear h9
      go_loopw [17] (fun i wr => ∃ k : Nat, i = .int .i64 k ∧ k ≤ G.size ∧ Frm (fun _ => False) w wr) (fun i _ => G.size - (intOf i).toNat)
      case atStart => exact ⟨0, rfl, Nat.zero_le _, f9⟩
      case round =>
        obtain ⟨k, rfl, hk, hfr⟩ := hrel
        by_cases hlt : k < G.size
        · have hat := between_at HB.out HGl.out k hlt
          have i0 : (0 : Int) ≤ k := by omega
          have i1 : (k : Int) < G.size := by omega
          rcases hat with ⟨hks, he⟩ | ⟨g1, g2, he⟩ | ⟨g1, he⟩
          · have i2 : (k : Int) < S.size := by omega
            go_wp2_with fail
            go_quiet (fail)
            go_wp2_with fail
            all_goals exact ⟨⟨k + 1, by go_num, hlt, hfr.drewN nq⟩, by simp [intOf]; omega⟩
          · by_cases hks : k < S.size
            · have i2 : (k : Int) < S.size := by omega
              go_wp2_with fail
              go_quiet (fail)
              go_wp2_with fail
              all_goals exact ⟨⟨k + 1, by go_num, hlt, hfr.drewN nq⟩, by simp [intOf]; omega⟩
            · have hd : decide ((k : Int) < S.size) = false := by rw [decide_eq_false_iff_not]; omega
              have hge : (S.size : Int) ≤ k := by omega
              go_wp2_with fail
              go_quiet (fail)
              go_wp2_with fail
              all_goals exact ⟨⟨k + 1, by go_num, hlt, hfr.drewN nq⟩, by simp [intOf]; omega⟩
          · have hks : ¬ k < S.size := by omega
            have hd : decide ((k : Int) < S.size) = false := by rw [decide_eq_false_iff_not]; omega
            have hge : (S.size : Int) ≤ k := by omega
            go_wp2_with fail
            go_quiet (fail)
            go_wp2_with fail
            all_goals exact ⟨⟨k + 1, by go_num, hlt, hfr.drewN nq⟩, by simp [intOf]; omega⟩
        · go_wp2_with fail
          go_ret
          exact ⟨rfl, hfr⟩
end Go.Proofs.Ytehdjajeonemoaa
