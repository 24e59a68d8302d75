/-
  The law DiskSynced: what its code does. Conditions: none beyond the arguments in memory.
-/
import Derived.Test.YtehdjajeonemoaaLawReads
namespace Go.Proofs.Ytehdjajeonemoaa
open Go.RowKit

/-- What the acts of this law make of a disk. -/
structure Small (D : Dk) : Prop where
  lim : D.limited = false
  len : D.now.length ≤ 1000

theorem Small.act {D : Dk} (h : Small D) (o n : Int) (t : List UInt8) (h1 : -4 < o) (h2 : o < 4) : Small (D.act 0 o n t) := by
  unfold Dk.act
  rw [if_neg (by decide), if_neg (by decide), if_neg (by decide), if_neg (by decide)]
  refine ⟨by rw [limited_write]; exact h.lim, ?_⟩
  have hl := h.len
  have hL := longL_length n t
  unfold Dk.write
  split
  · exact hl
  · rename_i hw
    rw [off_free h.lim]
    show (putL D.now (whereI o).toNat (longL n t)).length ≤ _
    have hw2 : (whereI o).toNat ≤ 300 := by
      unfold whereI
      split
      · have : o.toNat ≤ 4 := by omega
        omega
      · have : o % 300 = o := Int.emod_eq_of_lt (by omega) (by omega)
        rw [this]
        omega
    rw [putL_length]
    omega

theorem tmod4 (n : Int) : -4 < n.tmod 4 ∧ n.tmod 4 < 4 := by
  by_cases h : 0 ≤ n
  · have h1 := Int.tmod_nonneg 4 h
    have h2 := Int.tmod_lt_of_pos n (show (0 : Int) < 4 by decide)
    omega
  · have h1 := Int.tmod_nonneg 4 (show 0 ≤ -n by omega)
    have h2 := Int.tmod_lt_of_pos (-n) (show (0 : Int) < 4 by decide)
    rw [Int.neg_tmod] at h1 h2
    omega

set_option maxRecDepth 100000 in
set_option maxHeartbeats 4000000 in
theorem law_synced (ao : Option Addr) (cap : Nat) (l : List ActV) (a b : Int) (aq : Option Addr) (capq : Nat) (q : List Int) (w : World) (hl : ActsAt w ao l) (_hlen : l.length ≤ 9223372036854775807) (ha : -9223372036854775808 ≤ a ∧ a ≤ 9223372036854775807) (hb : -9223372036854775808 ≤ b ∧ b ≤ 9223372036854775807) (hq : IntsAt w aq q) (hqlen : q.length ≤ 9223372036854775807) :
    Calls Try.prog 6 #[.slice ao l.length cap, .agg #[.int .i64 a, .int .i64 b], .slice aq q.length capq] w fun e w' => e = .returned (.bool true) ∧ Frm (fun _ => False) w w' := by
  have Hl := Lib.hid hl
  have Hq := Lib.hid hq
  have Ha := Lib.hid ha
  have Hb := Lib.hid hb
  clear hl hq ha hb
  have h0 := (Own.start w).box #[.int .i64 a, .int .i64 b] 42
  go_enter Try.func6, Try.ntmps6
  go_wp2_with fail
  refine (sanity_any _).mono ?_
  rintro e w1 ⟨rfl, f1⟩
  have h1 := h0.still f1
  clear f1 h0
  obtain ⟨z, hz⟩ : ∃ z, z = w.heap.size := ⟨_, rfl⟩
  rw [← hz] at h1 ⊢
  clear hz
  go_wp2_with fail
  refine (own_new h1).mono ?_
  rintro e w2 ⟨d, rfl, h2⟩
  go_wp2_with fail
  refine (own_rnew h2).mono ?_
  rintro e w3 ⟨m, rfl, h3⟩
  have h4 := h3.box #[.pointer (some ⟨d, 0, none⟩), .pointer (some ⟨m, 0, none⟩)] 30
  clear h1 h2
  go_wp2_with fail
  obtain ⟨x, hx⟩ : ∃ x, x = w3.heap.size := ⟨_, rfl⟩
  obtain ⟨w4, hw4⟩ : ∃ w4, w4 = w3.alloc (.cells #[.pointer (some ⟨d, 0, none⟩), .pointer (some ⟨m, 0, none⟩)] 30) := ⟨_, rfl⟩
  rw [← hx, ← hw4] at h4 ⊢
  have h5 : Own w (deskL x d m Dk.new 0 ++ [cellT z #[.int .i64 a, .int .i64 b] 42]) w4 := Own.rot (L := deskL x d m Dk.new 0) h4
  clear h3 h4 hx hw4
  have f5 : Frm (fun _ => False) w w4 := h5.frm
  go_loopw [9] (fun si wr => ∃ (i d' m' : Nat) (D : Dk), si = .int .i64 i ∧ i ≤ l.length ∧ i ≤ 10 ∧ Small D ∧ Own w (deskL x d' m' D (8 + 201 * i) ++ [cellT z #[.int .i64 a, .int .i64 b] 42]) wr) (fun i _ => 10 - (intOf i).toNat)
  case atStart => exact ⟨0, d, m, Dk.new, rfl, Nat.zero_le _, Nat.zero_le _, ⟨rfl, Nat.zero_le _⟩, Own.more (by omega) h5⟩
  case round =>
    obtain ⟨i, d', m', D, rfl, hil, hi40, hSm, hO⟩ := hrel
    clear h5
    by_cases hlt : i < l.length ∧ i < 10
    · obtain ⟨hlt, h40⟩ := hlt
      obtain ⟨b, o, rfl, -, c1, c2, c3, hok⟩ := Hl.out i hlt
      have Hok := Lib.hid hok
      have hOd := hO.drew
      clear hok
      go_upto_region 8 with fail
      obtain ⟨t1, t2⟩ := tmod4 l[i].off
      go_region_held3 (fun w' => w'.cell? ⟨b, o + i * 4 + 1, none⟩ = some (.int .i64 l[i].off) ∧ w'.cell? ⟨b, o + i * 4 + 2, none⟩ = some (.int .i64 l[i].n) ∧ w'.cell? ⟨b, o + i * 4 + 3, none⟩ = some (.string l[i].text))
        (first | exact ⟨h6.frm.cell c1 (fun h => h), h6.frm.cell c2 (fun h => h), h6.frm.cell c3 (fun h => h)⟩ | exact ⟨hOd.frm.cell c1 (fun h => h), hOd.frm.cell c2 (fun h => h), hOd.frm.cell c3 (fun h => h)⟩)
        (first
          | (go_at_call 22; refine (own_do hOd ⟨0, l[i].off.tmod 4, l[i].n, l[i].text⟩ (ActV.ok_of 0 _ _ _ (by decide) (by omega) ⟨Hok.out.n1, Hok.out.n2⟩ Hok.out.t) (by omega)).mono ?_; rintro e w6 ⟨rfl, d2, m2, h6⟩))
      clear hO hOd
      go_wp2_with fail
      go_roundw
      case rel => exact ⟨i + 1, d2, m2, _, by go_num, hlt, h40, hSm.act _ _ _ t1 t2, h6⟩
      case measure => simp [intOf]; omega
    · have hcase : ¬ ((i : Int) < l.length) ∨ ((i : Int) < l.length ∧ ¬ ((i : Int) < 10)) := by omega
      have hlen := hSm.len
      have e1 : D.sync = (0, { D.count with synced := D.now, pend := [] }) := sync_dk (off_free hSm.lim)
      obtain ⟨D1, hD1⟩ : ∃ E : Dk, E = { D.count with synced := D.now, pend := [] } := ⟨_, rfl⟩
      rw [← hD1] at e1
      have n1 : D1.now = D.now := by rw [hD1]; rfl
      have s1 : D1.synced = D.now := by rw [hD1]
      have p1 : D1.pend = [] := by rw [hD1]
      have o1 : D1.off = false := off_free (by rw [hD1]; exact hSm.lim)
      have l1 : D1.now.length = D.now.length := by rw [n1]
      obtain ⟨nn, hnn⟩ : ∃ nn, nn = D.now.length := ⟨_, rfl⟩
      rw [← hnn] at l1 hlen
      obtain ⟨R, hR⟩ : ∃ R : ByteArray, R = ⟨D.now.toArray⟩ := ⟨_, rfl⟩
      have rd : (⟨(D1.read 0 (nn : Int)).toArray⟩ : ByteArray) = R := by rw [read_all D1 nn (by rw [n1, hnn]), n1, hR]
      obtain ⟨k, hk⟩ : ∃ k : Nat, a % 100 = k := ⟨(a % 100).toNat, by have := Int.emod_nonneg a (show (100 : Int) ≠ 0 by decide); omega⟩
      have hk100 : k < 100 := by have := Int.emod_lt_of_pos a (show (0 : Int) < 100 by decide); omega
      obtain ⟨j, hj⟩ : ∃ j : Nat, b % 150 = j := ⟨(b % 150).toNat, by have := Int.emod_nonneg b (show (150 : Int) ≠ 0 by decide); omega⟩
      have hj150 : j < 150 := by have := Int.emod_lt_of_pos b (show (0 : Int) < 150 by decide); omega
      obtain ⟨S, hS⟩ : ∃ S : ByteArray, S = ⟨(List.replicate j 121).toArray⟩ := ⟨_, rfl⟩
      have hsz : S.size = j := by rw [hS]; show (List.replicate j (121 : UInt8)).toArray.size = j; simp
      have hSl : S.data.toList = List.replicate j 121 := by rw [hS]
      have e2 : D1.write ((nn : Int) + k) S.data.toList = (0, { D1.count with now := putL D1.now (nn + k) S.data.toList, pend := D1.pend ++ cut S.data.toList.length (nn + k) S.data.toList }) := by
        rw [hSl]
        have := write_dk (D := D1) (off := (nn : Int) + k) (s := List.replicate j 121) (by omega) (by rw [List.length_replicate]; omega) o1
        rw [show ((nn : Int) + k).toNat = nn + k by omega] at this
        exact this
      obtain ⟨D2, hD2⟩ : ∃ E : Dk, E = { D1.count with now := putL D1.now (nn + k) S.data.toList, pend := D1.pend ++ cut S.data.toList.length (nn + k) S.data.toList } := ⟨_, rfl⟩
      rw [← hD2] at e2
      have rd2 : (⟨((D2.crash q).read 0 (nn : Int)).toArray⟩ : ByteArray) = R := by
        have := (crash_keeps D2 q nn (by rw [hD2]; show nn ≤ D1.synced.length; rw [s1, hnn]; exact Nat.le_refl _) (fun p hp => by
          rw [hD2] at hp
          have hp' : p ∈ D1.pend ++ cut S.data.toList.length (nn + k) S.data.toList := hp
          rw [p1, List.nil_append] at hp'
          have := (cut_mem _ _ _ _ hp').1
          omega)).2
        rw [read_pre, this, hD2]
        show (⟨(D1.synced.take nn).toArray⟩ : ByteArray) = R
        rw [s1, hnn, List.take_length, hR]
      have E1 := Lib.hid e1
      have E2 := Lib.hid e2
      have Rd := Lib.hid rd
      have Rd2 := Lib.hid rd2
      have HS := Lib.hid hS
      have Hk := Lib.hid hk
      have Hj := Lib.hid hj
      have L1 := Lib.hid l1
      clear hlt f5 hSm e1 hD1 n1 s1 p1 o1 l1 hnn hR rd hk hj hS hSl e2 hD2 rd2
      obtain ⟨c0, c1⟩ := Own.desk2 hO
      rcases hcase with hge | ⟨hlt2, h40⟩
      all_goals
        go_wp2_with fail
        refine (own_sync_eq hO 0 rfl (by omega) E1.out rfl).mono ?_
        rintro e w7 ⟨rfl, h7⟩
        clear hO c0 c1
        obtain ⟨c0, -⟩ := cells2 (h7.obj 2 rfl)
        go_wp2_with fail
        refine (own_size h7 0 rfl).mono ?_
        rintro e w8 ⟨rfl, rfl⟩
        rw [L1.out]
        go_wp2_with fail
        refine (own_read_eq h7 0 rfl 0 nn (by omega) Rd.out).mono ?_
        rintro e w8 ⟨rfl, h8⟩
        clear h7 c0
        have h9 := h8.drew
        clear h8
        go_upto_region 14 with fail
        have y1 : IntKind.i64.wrap ((nn : Int) + k) = (nn : Int) + k := IntWalk.i64_in _ (by omega)
        go_region_held3 (fun w' => w'.cell? ⟨x, 0, none⟩ = some (.pointer (some ⟨d', 0, none⟩)) ∧ w'.cell? ⟨z, 0, none⟩ = some (.int .i64 a) ∧ w'.cell? ⟨z, 1, none⟩ = some (.int .i64 b))
          (first
            | exact ⟨(cells2 (h11.obj 2 rfl)).1, (cells2 (h11.obj 3 rfl)).1, (cells2 (h11.obj 3 rfl)).2.1⟩
            | exact ⟨(cells2 (h10.obj 2 rfl)).1, (cells2 (h10.obj 3 rfl)).1, (cells2 (h10.obj 3 rfl)).2.1⟩
            | exact ⟨(cells2 (h9.obj 2 rfl)).1, (cells2 (h9.obj 3 rfl)).1, (cells2 (h9.obj 3 rfl)).2.1⟩)
          (first
            | (go_at_call 28; first
                | (with_reducible show Calls _ _ #[Value.int .i64 a, _] _ _; refine (mod_any a 100 _ (by decide) (by decide) Ha.out.1 Ha.out.2).mono ?_; rintro e w10 ⟨rfl, rfl⟩; rw [Hk.out])
                | (refine (mod_any b 150 _ (by decide) (by decide) Hb.out.1 Hb.out.2).mono ?_; rintro e w10 ⟨rfl, rfl⟩; rw [Hj.out]))
            | (go_at_call 32; refine (repeated_any 121 j _ (by omega)).mono ?_; rintro e w10 ⟨rfl, f10⟩; have h10 := h9.still f10; rw [show strV (List.replicate j 121) = .string S from by rw [HS.out]; rfl])
            | (go_at_call 33; refine (own_write_eq h10 0 rfl _ S (by omega) (by omega) E2.out rfl).mono ?_; rintro e w11 ⟨rfl, h11⟩))
        clear h9 h10 f10 y1
        obtain ⟨c0, -⟩ := cells2 (h11.obj 2 rfl)
        go_wp2_with fail
        refine (own_crash h11 0 rfl (by omega) aq capq q (Hq.out.frm h11.frm (fun _ _ _ h => h)) hqlen).mono ?_
        rintro e w12 ⟨c, rfl, h12⟩
        clear h11 c0
        go_wp2_with fail
        refine (own_read_eq h12 4 rfl 0 nn (by omega) Rd2.out).mono ?_
        rintro e w13 ⟨rfl, h13⟩
        clear h12
        go_wp2_with fail
        go_ret
        exact ⟨rfl, h13.frm⟩
end Go.Proofs.Ytehdjajeonemoaa
