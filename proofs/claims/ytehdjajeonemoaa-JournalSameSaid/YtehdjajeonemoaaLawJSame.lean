/-
  The law JournalSame: what its code does. Conditions: none beyond the arguments in memory.
-/
import Derived.Test.YtehdjajeonemoaaJSan
import Derived.Test.YtehdjajeonemoaaJTwo
namespace Go.Proofs.Ytehdjajeonemoaa
open Go.RowKit

set_option maxRecDepth 100000 in
set_option maxHeartbeats 8000000 in
theorem law_jsame (ao : Option Addr) (cap : Nat) (l : List ByteArray) (fail : Nat) (aq : Option Addr) (capq : Nat) (q : List Int) (w : World) (hl : ArgStrs w ao l) (_hlen : l.length ≤ 9223372036854775807) (_hf : fail ≤ 255) (hq : IntsAt w aq q) (hql : q.length ≤ 9223372036854775807) :
    Calls Try.prog 15 #[.slice ao l.length cap, .int .u8 fail, .slice aq q.length capq] w fun e w' => e = .returned (.bool true) ∧ Frm (fun _ => False) w w' := by
  have Hl := Lib.hid hl
  have Hq := Lib.hid hq
  clear hl hq
  go_enter Try.func15, Try.ntmps15
  go_wp2_with fail
  refine (jsanity_any w).mono ?_
  rintro e w1 ⟨rfl, f1⟩
  have h1 := (Own.start w).still f1
  clear f1
  go_wp2_with fail
  refine (own_new h1).mono ?_
  rintro e w2 ⟨d, rfl, h2⟩
  go_wp2_with fail
  refine (own_opened (R := []) h2 0 rfl rfl (by decide) Good.nil).mono ?_
  rintro e w3 ⟨j, v, D1, rfl, i1, l1, h3⟩
  clear l1 h1 h2
  obtain ⟨a0, c0, rfl⟩ := strs_form (h3.strs 2 rfl).1
  go_wp2_with fail
  refine (own_rjnew h3).mono ?_
  rintro e w4 ⟨m, rfl, h4⟩
  clear h3
  have h5 : Own w [diskT d D1 10, jT j d (Jn.of []), rT m (.slice none 0 0) (.slice none 0 0) ⟨false, cntL []⟩, strsT (.slice none 0 0) [], strsT (.slice none 0 0) []] w4 := by
    refine (h4.widen (n' := 10) 0 rfl (by decide)).reidx (fun a => if a ≤ 1 then a else a + 1) (fun a U ha => ?_) (fun a b _ _ e => by split at e <;> split at e <;> omega)
    match a, ha with
    | 0, ha => exact ha
    | 1, ha => exact ha
    | 2, ha => exact ha
    | 3, ha => exact ha
    | 4, ha => exact ha
    | a + 5, ha => simp at ha
  clear h4
  go_wp2_with fail
  go_loopw [13] (fun si wr => ∃ (i n : Nat) (vL vM : Value) (D : Dk) (J : Jn) (b : Bool) (R M : List (List UInt8)), si = .int .i64 i ∧ i ≤ l.length ∧ i ≤ 10 ∧ n ≤ 1000 * i + 10 ∧ Both D J b R M ∧ Small R ∧ R.length ≤ i ∧ Own w [diskT d D n, jT j d J, rT m vL vM ⟨b, cntL R⟩, strsT vL R, strsT vM M] wr) (fun i _ => 10 - (intOf i).toNat)
  case atStart => exact ⟨0, 10, _, _, D1, _, false, [], [], rfl, Nat.zero_le _, Nat.zero_le _, by omega, .inl ⟨i1, rfl, rfl, rfl⟩, Small.nil, Nat.zero_le _, h5⟩
  case round =>
    obtain ⟨i, n, vL, vM, D, J, bb, R, M, rfl, hil, hi10, hn, hB, hS, hRi, hO⟩ := hrel
    clear h5 i1
    have HB := Lib.hid hB
    have HS := Lib.hid hS
    clear hB hS
    by_cases hlt : i < l.length ∧ i < 10
    · obtain ⟨hlt, h10⟩ := hlt
      obtain ⟨b, o, rfl, cs, hsz⟩ := Hl.out.at' i hlt
      have i0 : (0 : Int) ≤ i := by omega
      have i1 : (i : Int) < l.length := by omega
      have i2 : (i : Int) < 10 := by omega
      have hmid : ((i : Int) == (l.length : Int) / 2) = true ∨ ((i : Int) == (l.length : Int) / 2) = false := by cases ((i : Int) == (l.length : Int) / 2) <;> simp
      rcases hmid with hm | hm
      go_wp2_with fail
      refine (own_fail hO 0 rfl ((fail : Int) % 9) (n + 10) (by omega) (by omega)).mono ?_
      rintro e w5 ⟨rfl, h5⟩
      have b5 := Lib.hid (HB.out.fail ((fail : Int) % 9))
      have h6 : Own w [diskT d (D.fail ((fail : Int) % 9)) (n + 10), jT j d J, rT m vL vM ⟨bb, cntL R⟩, strsT vL R, strsT vM M] w5 := h5
      clear h5
      rotate_left
      have b5 := HB
      have h6 : Own w [diskT d D (n + 10), jT j d J, rT m vL vM ⟨bb, cntL R⟩, strsT vL R, strsT vM M] wr := hO.widen (n' := n + 10) 0 rfl (by omega)
      all_goals
        clear hm hO HB
        have hOd := h6.drew
        have cd := hOd.frm.cell cs (fun h => h)
        go_upto_region 12 with fail
        refine wp_region_held_drew (S := fun w' => w'.cell? ⟨b, o + i, none⟩ = some (.string l[i])) (by kernel_rfl) cd (fun hHeld => ?_)
        refine wpAnyH_take (i := 0) (oi := ⟨some 55, _, _, _, _, _⟩) (v := (.pointer (some ⟨m, 0, none⟩))) rfl (by kernel_rfl) (by kernel_rfl) (by kernel_rfl) (fun _ _ _ h => h) (.inl ⟨by rfl, fun w hw => by dsimp only at hw; go_simp⟩) hHeld ?_
        simp only [Act.put, List.setIfInBounds_toArray, List.set_cons_zero, List.set_cons_succ]
        refine wpAnyH_take (i := 1) (oi := ⟨some 56, _, _, _, _, _⟩) (v := (.slice (some ⟨b, o, none⟩) l.length cap)) rfl (by kernel_rfl) (by kernel_rfl) (by kernel_rfl) (fun _ _ _ h => h) (.inl ⟨by rfl, fun w hw => by dsimp only at hw; go_simp⟩) hHeld ?_
        simp only [Act.put, List.setIfInBounds_toArray, List.set_cons_zero, List.set_cons_succ]
        refine wpAnyH_take (i := 2) (oi := ⟨some 57, _, _, _, _, _⟩) (v := (.int .i64 i)) rfl (by kernel_rfl) (by kernel_rfl) (by kernel_rfl) (fun _ _ _ h => h) (.inl ⟨by rfl, fun w hw => by dsimp only at hw; go_simp⟩) hHeld ?_
        simp only [Act.put, List.setIfInBounds_toArray, List.set_cons_zero, List.set_cons_succ]
        refine wpAnyH_take (i := 3) (oi := ⟨some 58, _, _, _, _, _⟩) (v := (.pointer (some ⟨b, o + i, none⟩))) rfl (by kernel_rfl) (by kernel_rfl) (by kernel_rfl) (fun _ _ _ h => h) (.inl ⟨by rfl, fun w hw => by dsimp only at hw; go_simp⟩) hHeld ?_
        simp only [Act.put, List.setIfInBounds_toArray, List.set_cons_zero, List.set_cons_succ]
        refine wpAnyH_take (i := 4) (oi := ⟨some 59, _, _, _, _, _⟩) (v := (.string l[i])) rfl (by kernel_rfl) (by kernel_rfl) (by kernel_rfl) (fun _ _ _ h => h) (.inl ⟨by rfl, fun w hw => by dsimp only at hw; go_simp⟩) hHeld ?_
        simp only [Act.put, List.setIfInBounds_toArray, List.set_cons_zero, List.set_cons_succ]
        refine wpAnyH_take (i := 6) (oi := ⟨some 61, _, _, _, _, _⟩) (v := (.pointer (some ⟨j, 0, none⟩))) rfl (by kernel_rfl) (by kernel_rfl) (by kernel_rfl) (fun _ _ _ h => h) (.inl ⟨by rfl, fun w hw => by dsimp only at hw; go_simp⟩) hHeld ?_
        simp only [Act.put, List.setIfInBounds_toArray, List.set_cons_zero, List.set_cons_succ]
        refine wpAnyH_take (i := 7) (oi := ⟨some 62, _, _, _, _, _⟩) (v := (.slice (some ⟨b, o, none⟩) l.length cap)) rfl (by kernel_rfl) (by kernel_rfl) (by kernel_rfl) (fun _ _ _ h => h) (.inl ⟨by rfl, fun w hw => by dsimp only at hw; go_simp⟩) hHeld ?_
        simp only [Act.put, List.setIfInBounds_toArray, List.set_cons_zero, List.set_cons_succ]
        refine wpAnyH_take (i := 8) (oi := ⟨some 63, _, _, _, _, _⟩) (v := (.int .i64 i)) rfl (by kernel_rfl) (by kernel_rfl) (by kernel_rfl) (fun _ _ _ h => h) (.inl ⟨by rfl, fun w hw => by dsimp only at hw; go_simp⟩) hHeld ?_
        simp only [Act.put, List.setIfInBounds_toArray, List.set_cons_zero, List.set_cons_succ]
        refine wpAnyH_take (i := 9) (oi := ⟨some 64, _, _, _, _, _⟩) (v := (.pointer (some ⟨b, o + i, none⟩))) rfl (by kernel_rfl) (by kernel_rfl) (by kernel_rfl) (fun _ _ _ h => h) (.inl ⟨by rfl, fun w hw => by dsimp only at hw; go_simp⟩) hHeld ?_
        simp only [Act.put, List.setIfInBounds_toArray, List.set_cons_zero, List.set_cons_succ]
        refine wpAnyH_take (i := 10) (oi := ⟨some 65, _, _, _, _, _⟩) (v := (.string l[i])) rfl (by kernel_rfl) (by kernel_rfl) (by kernel_rfl) (fun _ _ _ h => h) (.inl ⟨by rfl, fun w hw => by dsimp only at hw; go_simp⟩) hHeld ?_
        simp only [Act.put, List.setIfInBounds_toArray, List.set_cons_zero, List.set_cons_succ]
        refine wpAnyH_ready (rs := [5]) (by kernel_rfl) (by simp) ?_
        refine AllReadyH.cons (o := ⟨some 60, _, _, _, _, _⟩) rfl (fun K hK => ?_) AllReadyH.nil
        go_simp
        refine (short_any l[i] _ hsz).mono ?_
        rintro e5 w5 ⟨⟨r, rfl, hr⟩, rfl⟩
        have hrs : r.size = (l[i].data.toList.take 200).length := by rw [← hr, size_toList]
        have hr200 : r.size ≤ 200 := by rw [hrs]; simp; omega
        have Hr := Lib.hid hr
        clear hr hrs
        refine hK.out _ _ hHeld (fun hHeld => ?_)
        clear hK K
        refine wpAnyH_ready (rs := [11]) (by kernel_rfl) (by simp) ?_
        refine AllReadyH.cons (o := ⟨some 66, _, _, _, _, _⟩) rfl (fun K hK => ?_) AllReadyH.nil
        go_simp
        refine (short_any l[i] _ hsz).mono ?_
        rintro e7 w7 ⟨⟨r2, rfl, hr2⟩, rfl⟩
        obtain rfl : r2 = r := WideShapes.bytes_inj (hr2.trans Hr.out.symm)
        clear hr2
        refine hK.out _ _ hHeld (fun hHeld => ?_)
        clear hK K
        refine wpAnyH_ready (rs := [12]) (by kernel_rfl) (by simp) ?_
        refine AllReadyH.cons (o := ⟨some 67, _, _, _, _, _⟩) rfl (fun K hK => ?_) AllReadyH.nil
        go_simp
        refine (own_append_both hOd 0 1 rfl rfl (by decide) b5.out HS.out (by omega) r2 hr200 (by omega)).mono ?_
        rintro e8 w8 ⟨c, D8, J8, rfl, hA, h8⟩
        have HA := Lib.hid hA
        clear hA
        obtain ⟨p, hp1, hp2⟩ : ∃ p : Bool, (c == 0) = p ∧ decide (c = 0) = p := ⟨_, rfl, by cases hc : (c == 0) <;> simp_all⟩
        refine hK.out _ _ (h8.frm.cell cs (fun h => h)) (fun hHeld => ?_)
        clear hK K
        refine wpAnyH_take (i := 13) (oi := ⟨some 68, _, _, _, _, _⟩) (v := (.bool p)) rfl (by kernel_rfl) (by kernel_rfl) (by kernel_rfl) (fun _ _ _ h => h) (.inl ⟨by rfl, fun w hw => by dsimp only at hw; go_simp⟩) hHeld ?_
        simp only [Act.put, List.setIfInBounds_toArray, List.set_cons_zero, List.set_cons_succ]
        have Hp := Lib.hid hp1
        clear hp1 hp2
        refine wpAnyH_ready (rs := [14]) (by kernel_rfl) (by simp) ?_
        refine AllReadyH.cons (o := ⟨some 69, _, _, _, _, _⟩) rfl (fun K hK => ?_) AllReadyH.nil
        go_simp
        refine (own_rapp_both h8 2 3 4 rfl rfl rfl (by decide) (by decide) (by decide) HA.out HS.out (by omega) hr200 p Hp.out).mono ?_
        rintro e9 w9 ⟨c9, vL', vM', b', R', M', rfl, hB', hS', hR', h9⟩
        refine hK.out _ _ (h9.frm.cell cs (fun h => h)) (fun hHeld => ?_)
        clear hK K
        refine wpAnyH_done (by kernel_rfl) ?_ _
        have HB' := Lib.hid hB'
        have HS' := Lib.hid hS'
        clear hHeld hB' hS' cd hOd h6 h8
        go_wp2_with fail
        go_roundw
        case rel => exact ⟨i + 1, n + 310, vL', vM', D8, J8, b', R', M', by go_num, hlt, h10, by omega, HB'.out, HS'.out, by omega, h9⟩
        case measure => simp [intOf]; omega
    · have hcase : ¬ ((i : Int) < l.length) ∨ ((i : Int) < l.length ∧ ¬ ((i : Int) < 10)) := by omega
      clear hlt
      rcases hcase with hc1 | ⟨hc1, hc2⟩
      all_goals
        go_wp2_with fail
        refine (own_fail hO 0 rfl (-1) n (by omega) (by omega)).mono ?_
        rintro e w5 ⟨rfl, h5⟩
        have b5 := Lib.hid (HB.out.fail (-1))
        obtain ⟨D5, hD5, hlim⟩ : ∃ D5, D5 = D.fail (-1) ∧ D5.limited = false := ⟨_, rfl, rfl⟩
        rw [← hD5] at h5 b5
        have Hlim := Lib.hid hlim
        clear hD5 hlim hO HB
        go_wp2_with fail
        refine (own_open_both (b := bb) (R := R) (M := M) h5 0 rfl (off_free Hlim.out) (by omega) b5.out.now).mono ?_
        rintro e w6 ⟨j6, v6, D6, R6, rfl, hM6, hI6, hlim6, h6⟩
        clear hlim6
        have HM := Lib.hid hM6
        have HI := Lib.hid hI6
        obtain ⟨hS6, hR6⟩ := hM6.small HS.out
        clear hM6 hI6 h5 b5
        obtain ⟨a6, c6, rfl⟩ := strs_form (h6.strs 6 rfl).1
        go_wp2_with fail
        refine (own_opens_both h6 2 3 4 6 rfl rfl rfl rfl (by decide) (by decide) HS.out (by omega) HM.out).mono ?_
        rintro e w7 ⟨rfl, v7, h7⟩
        clear h6
        go_wp2_with fail
        refine (own_crash h7 0 rfl (by omega) aq capq q (Hq.out.frm h7.frm (fun _ _ _ h => h)) hql).mono ?_
        rintro e w8 ⟨c, rfl, h8⟩
        clear h7
        go_wp2_with fail
        refine (own_opened (R := R6) h8 7 rfl rfl (by omega) (HI.out.crash q).good).mono ?_
        rintro e w9 ⟨j9, v9, D9, rfl, hI9, hlim9, h9⟩
        clear h8 hI9 hlim9
        obtain ⟨a9, c9, rfl⟩ := strs_form (h9.strs 9 rfl).1
        have sa := (h9.strsAt 9 rfl).1
        have sb := (h9.strsAt 6 rfl).1
        have hs := jsame_any a9 a6 c9 c6 R6 R6 w9 sa sb (by omega) (by omega)
        rw [decide_eq_true rfl] at hs
        have Hs := Lib.hid hs
        clear hs sa sb
        go_wp2_with fail
        refine Hs.out.mono ?_
        rintro e w10 ⟨rfl, n3, rfl⟩
        have h10 := h9.drewN n3
        go_wp2_with fail
        go_ret
        exact ⟨rfl, h10.frm⟩

theorem law_jsame_int (ao : Option Addr) (cap : Nat) (l : List ByteArray) (fail : Int) (aq : Option Addr) (capq : Nat) (q : List Int) (w : World) (hl : ArgStrs w ao l) (hlen : l.length ≤ 9223372036854775807) (hf : 0 ≤ fail ∧ fail ≤ 255) (hq : IntsAt w aq q) (hql : q.length ≤ 9223372036854775807) :
    Calls Try.prog 15 #[.slice ao l.length cap, .int .u8 fail, .slice aq q.length capq] w fun e w' => e = .returned (.bool true) ∧ Frm (fun _ => False) w w' := by
  obtain ⟨x, rfl⟩ := Int.eq_ofNat_of_zero_le hf.1
  exact law_jsame ao cap l x aq capq q w hl hlen (by omega) hq hql
end Go.Proofs.Ytehdjajeonemoaa
