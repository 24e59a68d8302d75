/-
  The law JournalKeeps: what its code does. Conditions: none beyond the arguments in memory.
-/
import Derived.Test.YtehdjajeonemoaaJSan
import Derived.Test.YtehdjajeonemoaaArgJ
import Derived.Deep.RegionHeld3
namespace Go.Proofs.Ytehdjajeonemoaa
open Go.RowKit

/-- A disk, a journal on it, and a reference journal. -/
def jL (d j m : Nat) (vL vM : Value) (D : Dk) (n : Nat) (R : List (List UInt8)) : List Thing := [diskT d D n, jT j d (Jn.of R), rT m vL vM ⟨false, cntL R⟩, strsT vL R, strsT vM []]

set_option maxRecDepth 100000 in
set_option maxHeartbeats 8000000 in
theorem law_keeps (ao : Option Addr) (cap : Nat) (l : List ByteArray) (again crash : Nat) (w : World) (hl : ArgStrs w ao l) (_hlen : l.length ≤ 9223372036854775807) (_ha : again ≤ 4294967295) (_hc : crash ≤ 4294967295) :
    Calls Try.prog 13 #[.slice ao l.length cap, .int .u32 again, .int .u32 crash] w fun e w' => e = .returned (.bool true) ∧ Frm (fun _ => False) w w' := by
  have Hl := Lib.hid hl
  clear hl
  go_enter Try.func13, Try.ntmps13
  go_wp2_with fail
  refine (jsanity_any w).mono ?_
  rintro e w1 ⟨rfl, f1⟩
  have h1 := (Own.start w).still f1
  clear f1
  go_wp2_with fail
  refine (own_new h1).mono ?_
  rintro e w2 ⟨d, rfl, h2⟩
  go_wp2_with fail
  refine (own_opened (R := []) h2 0 rfl rfl (by decide) Good.nil).mono ?_
  rintro e w3 ⟨j, v, D1, rfl, i1, l1, h3⟩
  have L1 := Lib.hid l1
  clear l1 h1 h2
  obtain ⟨a0, c0, rfl⟩ := strs_form (h3.strs 2 rfl).1
  go_wp2_with fail
  refine (own_rjnew h3).mono ?_
  rintro e w4 ⟨m, rfl, h4⟩
  clear h3
  have h5 : Own w (jL d j m (.slice none 0 0) (.slice none 0 0) D1 1 []) w4 := by
    refine h4.reidx (fun a => if a ≤ 1 then a else a + 1) (fun a U ha => ?_) (fun a b _ _ e => by split at e <;> split at e <;> omega)
    match a, ha with
    | 0, ha => exact ha
    | 1, ha => exact ha
    | 2, ha => exact ha
    | 3, ha => exact ha
    | 4, ha => exact ha
    | a + 5, ha => simp [jL] at ha
  clear h4
  go_wp2_with fail
  go_loopw [8, 9, 11, 13] (fun sd sj se si wr => ∃ (i d' j' n : Nat) (vL vM : Value) (D : Dk), sd = .pointer (some ⟨d', 0, none⟩) ∧ sj = .pointer (some ⟨j', 0, none⟩) ∧ se = .int .i64 0 ∧ si = .int .i64 i ∧ i ≤ l.length ∧ i ≤ 20 ∧ n ≤ 1000 * i + 10 ∧ Intact D (recL l i) ∧ Hid (D.limited = false) ∧ Own w (jL d' j' m vL vM D n (recL l i)) wr) (fun _ _ _ i _ => 20 - (intOf i).toNat)
  case atStart => exact ⟨0, d, j, 1, _, _, D1, rfl, rfl, rfl, rfl, Nat.zero_le _, Nat.zero_le _, by omega, i1, L1, h5⟩
  case round =>
    obtain ⟨i, d', j', n, vL, vM, D, rfl, rfl, rfl, rfl, hil, hi20, hn, hI, hlim, hO⟩ := hrel
    clear h5 i1
    by_cases hlt : i < l.length ∧ i < 20
    · obtain ⟨hlt, h20⟩ := hlt
      obtain ⟨b, o, rfl, cs, hsz⟩ := Hl.out.at' i hlt
      have hOd := hO.drew
      have cd := hOd.frm.cell cs (fun h => h)
      have i0 : (0 : Int) ≤ i := by omega
      have i1 : (i : Int) < l.length := by omega
      have i2 : (i : Int) < 20 := by omega
      go_upto_region 8 with fail
      refine wp_region_held_drew (S := fun w' => w'.cell? ⟨b, o + i, none⟩ = some (.string l[i])) (by kernel_rfl) cd (fun hHeld => ?_)
      refine wpAnyH_take (i := 0) (oi := ⟨some 34, _, _, _, _, _⟩) (v := (.int .i64 0)) rfl (by kernel_rfl) (by kernel_rfl) (by kernel_rfl) (fun _ _ _ h => h) (.inl ⟨by rfl, fun w hw => by dsimp only at hw; go_simp⟩) hHeld ?_
      simp only [Act.put, List.setIfInBounds_toArray, List.set_cons_zero, List.set_cons_succ]
      refine wpAnyH_take (i := 1) (oi := ⟨some 35, _, _, _, _, _⟩) (v := (.bool false)) rfl (by kernel_rfl) (by kernel_rfl) (by kernel_rfl) (fun _ _ _ h => h) (.inl ⟨by rfl, fun w hw => by dsimp only at hw; go_simp⟩) hHeld ?_
      simp only [Act.put, List.setIfInBounds_toArray, List.set_cons_zero, List.set_cons_succ]
      refine wpAnyH_take (i := 2) (oi := ⟨some 36, _, _, _, _, _⟩) (v := (.bool false)) rfl (by kernel_rfl) (by kernel_rfl) (by kernel_rfl) (fun _ _ _ h => h) (.inl ⟨by rfl, fun w hw => by dsimp only at hw; go_simp⟩) hHeld ?_
      simp only [Act.put, List.setIfInBounds_toArray, List.set_cons_zero, List.set_cons_succ]
      refine wpAnyH_take (i := 3) (oi := ⟨some 37, _, _, _, _, _⟩) (v := (.pointer (some ⟨j', 0, none⟩))) rfl (by kernel_rfl) (by kernel_rfl) (by kernel_rfl) (fun _ _ _ h => h) (.inl ⟨by rfl, fun w hw => by dsimp only at hw; go_simp⟩) hHeld ?_
      simp only [Act.put, List.setIfInBounds_toArray, List.set_cons_zero, List.set_cons_succ]
      refine wpAnyH_take (i := 4) (oi := ⟨some 38, _, _, _, _, _⟩) (v := (.bool false)) rfl (by kernel_rfl) (by kernel_rfl) (by kernel_rfl) (fun _ _ _ h => h) (.inl ⟨by rfl, fun w hw => by dsimp only at hw; go_simp⟩) hHeld ?_
      simp only [Act.put, List.setIfInBounds_toArray, List.set_cons_zero, List.set_cons_succ]
      refine wpAnyH_take (i := 5) (oi := ⟨some 39, _, _, _, _, _⟩) (v := (.bool false)) rfl (by kernel_rfl) (by kernel_rfl) (by kernel_rfl) (fun _ _ _ h => h) (.inl ⟨by rfl, fun w hw => by dsimp only at hw; go_simp⟩) hHeld ?_
      simp only [Act.put, List.setIfInBounds_toArray, List.set_cons_zero, List.set_cons_succ]
      refine wpAnyH_take (i := 6) (oi := ⟨some 40, _, _, _, _, _⟩) (v := (.bool false)) rfl (by kernel_rfl) (by kernel_rfl) (by kernel_rfl) (fun _ _ _ h => h) (.inl ⟨by rfl, fun w hw => by dsimp only at hw; go_simp⟩) hHeld ?_
      simp only [Act.put, List.setIfInBounds_toArray, List.set_cons_zero, List.set_cons_succ]
      refine wpAnyH_take (i := 7) (oi := ⟨some 41, _, _, _, _, _⟩) (v := (.pointer (some ⟨j', 0, none⟩))) rfl (by kernel_rfl) (by kernel_rfl) (by kernel_rfl) (fun _ _ _ h => h) (.inl ⟨by rfl, fun w hw => by dsimp only at hw; go_simp⟩) hHeld ?_
      simp only [Act.put, List.setIfInBounds_toArray, List.set_cons_zero, List.set_cons_succ]
      refine wpAnyH_take (i := 8) (oi := ⟨some 42, _, _, _, _, _⟩) (v := (.slice (some ⟨b, o, none⟩) l.length cap)) rfl (by kernel_rfl) (by kernel_rfl) (by kernel_rfl) (fun _ _ _ h => h) (.inl ⟨by rfl, fun w hw => by dsimp only at hw; go_simp⟩) hHeld ?_
      simp only [Act.put, List.setIfInBounds_toArray, List.set_cons_zero, List.set_cons_succ]
      refine wpAnyH_take (i := 9) (oi := ⟨some 43, _, _, _, _, _⟩) (v := (.int .i64 i)) rfl (by kernel_rfl) (by kernel_rfl) (by kernel_rfl) (fun _ _ _ h => h) (.inl ⟨by rfl, fun w hw => by dsimp only at hw; go_simp⟩) hHeld ?_
      simp only [Act.put, List.setIfInBounds_toArray, List.set_cons_zero, List.set_cons_succ]
      refine wpAnyH_take (i := 10) (oi := ⟨some 44, _, _, _, _, _⟩) (v := (.pointer (some ⟨b, o + i, none⟩))) rfl (by kernel_rfl) (by kernel_rfl) (by kernel_rfl) (fun _ _ _ h => h) (.inl ⟨by rfl, fun w hw => by dsimp only at hw; go_simp⟩) hHeld ?_
      simp only [Act.put, List.setIfInBounds_toArray, List.set_cons_zero, List.set_cons_succ]
      refine wpAnyH_take (i := 11) (oi := ⟨some 45, _, _, _, _, _⟩) (v := (.string l[i])) rfl (by kernel_rfl) (by kernel_rfl) (by kernel_rfl) (fun _ _ _ h => h) (.inl ⟨by rfl, fun w hw => by dsimp only at hw; go_simp⟩) hHeld ?_
      simp only [Act.put, List.setIfInBounds_toArray, List.set_cons_zero, List.set_cons_succ]
      refine wpAnyH_take (i := 14) (oi := ⟨some 48, _, _, _, _, _⟩) (v := (.pointer (some ⟨m, 0, none⟩))) rfl (by kernel_rfl) (by kernel_rfl) (by kernel_rfl) (fun _ _ _ h => h) (.inl ⟨by rfl, fun w hw => by dsimp only at hw; go_simp⟩) hHeld ?_
      simp only [Act.put, List.setIfInBounds_toArray, List.set_cons_zero, List.set_cons_succ]
      refine wpAnyH_take (i := 15) (oi := ⟨some 49, _, _, _, _, _⟩) (v := (.slice (some ⟨b, o, none⟩) l.length cap)) rfl (by kernel_rfl) (by kernel_rfl) (by kernel_rfl) (fun _ _ _ h => h) (.inl ⟨by rfl, fun w hw => by dsimp only at hw; go_simp⟩) hHeld ?_
      simp only [Act.put, List.setIfInBounds_toArray, List.set_cons_zero, List.set_cons_succ]
      refine wpAnyH_take (i := 16) (oi := ⟨some 50, _, _, _, _, _⟩) (v := (.int .i64 i)) rfl (by kernel_rfl) (by kernel_rfl) (by kernel_rfl) (fun _ _ _ h => h) (.inl ⟨by rfl, fun w hw => by dsimp only at hw; go_simp⟩) hHeld ?_
      simp only [Act.put, List.setIfInBounds_toArray, List.set_cons_zero, List.set_cons_succ]
      refine wpAnyH_take (i := 17) (oi := ⟨some 51, _, _, _, _, _⟩) (v := (.pointer (some ⟨b, o + i, none⟩))) rfl (by kernel_rfl) (by kernel_rfl) (by kernel_rfl) (fun _ _ _ h => h) (.inl ⟨by rfl, fun w hw => by dsimp only at hw; go_simp⟩) hHeld ?_
      simp only [Act.put, List.setIfInBounds_toArray, List.set_cons_zero, List.set_cons_succ]
      refine wpAnyH_take (i := 18) (oi := ⟨some 52, _, _, _, _, _⟩) (v := (.string l[i])) rfl (by kernel_rfl) (by kernel_rfl) (by kernel_rfl) (fun _ _ _ h => h) (.inl ⟨by rfl, fun w hw => by dsimp only at hw; go_simp⟩) hHeld ?_
      simp only [Act.put, List.setIfInBounds_toArray, List.set_cons_zero, List.set_cons_succ]
      refine wpAnyH_ready (rs := [12]) (by kernel_rfl) (by simp) ?_
      refine AllReadyH.cons (o := ⟨some 46, _, _, _, _, _⟩) rfl (fun K hK => ?_) AllReadyH.nil
      go_simp
      refine (short_any l[i] _ hsz).mono ?_
      rintro e5 w5 ⟨⟨r, rfl, hr⟩, rfl⟩
      have hrs : r.size = (l[i].data.toList.take 200).length := by rw [← hr, size_toList]
      have hr200 : r.size ≤ 200 := by rw [hrs]; simp; omega
      have Hr := Lib.hid hr
      clear hr hrs
      refine hK.out _ _ hHeld (fun hHeld => ?_)
      clear hK K
      refine wpAnyH_ready (rs := [13]) (by kernel_rfl) (by simp) ?_
      refine AllReadyH.cons (o := ⟨some 47, _, _, _, _, _⟩) rfl (fun K hK => ?_) AllReadyH.nil
      go_simp
      refine (own_append_on (R := recL l i) hOd 0 1 rfl rfl (by decide) hI hlim.out r (recL_fits l i hil hi20 r hr200) (by omega)).mono ?_
      rintro e6 w6 ⟨rfl, D2, hI2, hlim2, h6⟩
      have Hlim2 := Lib.hid hlim2
      clear hlim2
      rw [Hr.out] at h6 hI2
      refine hK.out _ _ (h6.frm.cell cs (fun h => h)) (fun hHeld => ?_)
      clear hK K
      refine wpAnyH_ready (rs := [19]) (by kernel_rfl) (by simp) ?_
      refine AllReadyH.cons (o := ⟨some 53, _, _, _, _, _⟩) rfl (fun K hK => ?_) AllReadyH.nil
      go_simp
      refine (short_any l[i] _ hsz).mono ?_
      rintro e7 w7 ⟨⟨r2, rfl, hr2⟩, rfl⟩
      obtain rfl : r2 = r := WideShapes.bytes_inj (hr2.trans Hr.out.symm)
      clear hr2
      refine hK.out _ _ hHeld (fun hHeld => ?_)
      clear hK K
      refine wpAnyH_ready (rs := [20]) (by kernel_rfl) (by simp) ?_
      refine AllReadyH.cons (o := ⟨some 54, _, _, _, _, _⟩) rfl (fun K hK => ?_) AllReadyH.nil
      go_simp
      have hsm := recL_small l i hil hi20
      have hRl := recL_length l i hil
      have hsm2 := hsm.2
      have HRl := Lib.hid hRl
      clear hsm
      refine (own_rapp h6 2 3 rfl rfl (by decide) rfl r2 (show cntL (recL l i) + r2.size + 16 + 256 ≤ 16777216 by omega) (by rw [HRl.out]; omega)).mono ?_
      rintro e8 w8 ⟨rfl, v', h8⟩
      rw [Hr.out] at h8
      clear hRl
      refine hK.out _ _ (h8.frm.cell cs (fun h => h)) (fun hHeld => ?_)
      clear hK K
      refine wpAnyH_take (i := 21) (oi := ⟨some 55, _, _, _, _, _⟩) (v := (.bool false)) rfl (by kernel_rfl) (by kernel_rfl) (by kernel_rfl) (fun _ _ _ h => h) (.inl ⟨by rfl, fun w hw => by dsimp only at hw; go_simp⟩) hHeld ?_
      simp only [Act.put, List.setIfInBounds_toArray, List.set_cons_zero, List.set_cons_succ]
      refine wpAnyH_take (i := 22) (oi := ⟨some 56, _, _, _, _, _⟩) (v := (.bool false)) rfl (by kernel_rfl) (by kernel_rfl) (by kernel_rfl) (fun _ _ _ h => h) (.inl ⟨by rfl, fun w hw => by dsimp only at hw; go_simp⟩) hHeld ?_
      simp only [Act.put, List.setIfInBounds_toArray, List.set_cons_zero, List.set_cons_succ]
      refine wpAnyH_take (i := 23) (oi := ⟨some 57, _, _, _, _, _⟩) (v := (.bool false)) rfl (by kernel_rfl) (by kernel_rfl) (by kernel_rfl) (fun _ _ _ h => h) (.inl ⟨by rfl, fun w hw => by dsimp only at hw; go_simp⟩) hHeld ?_
      simp only [Act.put, List.setIfInBounds_toArray, List.set_cons_zero, List.set_cons_succ]
      refine wpAnyH_take (i := 24) (oi := ⟨some 58, _, _, _, _, _⟩) (v := (.pointer (some ⟨j', 0, none⟩))) rfl (by kernel_rfl) (by kernel_rfl) (by kernel_rfl) (fun _ _ _ h => h) (.inl ⟨by rfl, fun w hw => by dsimp only at hw; go_simp⟩) hHeld ?_
      simp only [Act.put, List.setIfInBounds_toArray, List.set_cons_zero, List.set_cons_succ]
      refine wpAnyH_take (i := 26) (oi := ⟨some 60, _, _, _, _, _⟩) (v := (.pointer (some ⟨m, 0, none⟩))) rfl (by kernel_rfl) (by kernel_rfl) (by kernel_rfl) (fun _ _ _ h => h) (.inl ⟨by rfl, fun w hw => by dsimp only at hw; go_simp⟩) hHeld ?_
      simp only [Act.put, List.setIfInBounds_toArray, List.set_cons_zero, List.set_cons_succ]
      refine wpAnyH_take (i := 27) (oi := ⟨some 61, _, _, _, _, _⟩) (v := (.pointer (some ⟨m, 0, none⟩))) rfl (by kernel_rfl) (by kernel_rfl) (by kernel_rfl) (fun _ _ _ h => h) (.inl ⟨by rfl, fun w hw => by dsimp only at hw; go_simp⟩) hHeld ?_
      simp only [Act.put, List.setIfInBounds_toArray, List.set_cons_zero, List.set_cons_succ]
      refine wpAnyH_take (i := 28) (oi := ⟨some 62, _, _, _, _, _⟩) (v := (.pointer (some ⟨m, 0, none⟩))) rfl (by kernel_rfl) (by kernel_rfl) (by kernel_rfl) (fun _ _ _ h => h) (.inl ⟨by rfl, fun w hw => by dsimp only at hw; go_simp⟩) hHeld ?_
      simp only [Act.put, List.setIfInBounds_toArray, List.set_cons_zero, List.set_cons_succ]
      obtain ⟨a2, c2, rfl⟩ := strs_form (h8.strs 3 rfl).1
      have hlen1 : (recL l i ++ [l[i].data.toList.take 200]).length = i + 1 := by rw [List.length_append, HRl.out]; rfl
      have hmany : (((Jn.of (recL l i ++ [l[i].data.toList.take 200])).many : Nat) : Int) = (i : Int) + 1 := by show (((recL l i ++ [l[i].data.toList.take 200]).length : Nat) : Int) = _; rw [hlen1]; rfl
      obtain ⟨cm0, -⟩ := h8.rcells (m := m) 2 rfl
      rw [hlen1] at cm0
      have Hlen1 := Lib.hid hlen1
      have Hmany := Lib.hid hmany
      clear hlen1 hmany
      refine wpAnyH_ready (rs := [25, 29]) (by kernel_rfl) (by simp) ?_
      refine AllReadyH.cons (o := ⟨some 59, _, _, _, _, _⟩) rfl (fun K hK => ?_) (AllReadyH.cons (o := ⟨some 63, _, _, _, _, _⟩) rfl (fun K hK => ?_) AllReadyH.nil)
      go_simp
      refine (own_many (J := Jn.of (recL l i ++ [l[i].data.toList.take 200])) h8 1 rfl).mono ?_
      rintro e9 w9 ⟨rfl, rfl⟩
      rw [Hmany.out]
      refine hK.out _ _ hHeld (fun hHeld => ?_)
      clear hK K
      refine wpAnyH_ready (rs := [29]) (by kernel_rfl) (by simp) ?_
      refine AllReadyH.cons (o := ⟨some 63, _, _, _, _, _⟩) rfl (fun K hK => ?_) AllReadyH.nil
      go_simp
      refine hK.out _ _ hHeld (fun hHeld => ?_)
      clear hK K
      refine wpAnyH_take (i := 30) (oi := ⟨some 64, _, _, _, _, _⟩) (v := (.int .i64 ((i : Int) + 1))) rfl (by kernel_rfl) (by kernel_rfl) (by kernel_rfl) (fun _ _ _ h => h) (.inl ⟨by rfl, fun w hw => by dsimp only at hw; go_simp⟩) hHeld ?_
      simp only [Act.put, List.setIfInBounds_toArray, List.set_cons_zero, List.set_cons_succ]
      refine wpAnyH_take (i := 31) (oi := ⟨some 65, _, _, _, _, _⟩) (v := (.bool false)) rfl (by kernel_rfl) (by kernel_rfl) (by kernel_rfl) (fun _ _ _ h => h) (.inl ⟨by rfl, fun w hw => by dsimp only at hw; go_simp⟩) hHeld ?_
      simp only [Act.put, List.setIfInBounds_toArray, List.set_cons_zero, List.set_cons_succ]
      refine wpAnyH_take (i := 32) (oi := ⟨some 66, _, _, _, _, _⟩) (v := (.bool false)) rfl (by kernel_rfl) (by kernel_rfl) (by kernel_rfl) (fun _ _ _ h => h) (.inl ⟨by rfl, fun w hw => by dsimp only at hw; go_simp⟩) hHeld ?_
      simp only [Act.put, List.setIfInBounds_toArray, List.set_cons_zero, List.set_cons_succ]
      refine wpAnyH_done (by kernel_rfl) ?_ _
      rotate_left
      go_simp
      refine hK.out _ _ hHeld (fun hHeld => ?_)
      clear hK K
      refine wpAnyH_take (i := 30) (oi := ⟨some 64, _, _, _, _, _⟩) (v := (.int .i64 ((i : Int) + 1))) rfl (by kernel_rfl) (by kernel_rfl) (by kernel_rfl) (fun _ _ _ h => h) (.inl ⟨by rfl, fun w hw => by dsimp only at hw; go_simp⟩) hHeld ?_
      simp only [Act.put, List.setIfInBounds_toArray, List.set_cons_zero, List.set_cons_succ]
      refine wpAnyH_ready (rs := [25]) (by kernel_rfl) (by simp) ?_
      refine AllReadyH.cons (o := ⟨some 59, _, _, _, _, _⟩) rfl (fun K hK => ?_) AllReadyH.nil
      go_simp
      refine (own_many (J := Jn.of (recL l i ++ [l[i].data.toList.take 200])) h8 1 rfl).mono ?_
      rintro e9 w9 ⟨rfl, rfl⟩
      rw [Hmany.out]
      refine hK.out _ _ hHeld (fun hHeld => ?_)
      clear hK K
      refine wpAnyH_take (i := 31) (oi := ⟨some 65, _, _, _, _, _⟩) (v := (.bool false)) rfl (by kernel_rfl) (by kernel_rfl) (by kernel_rfl) (fun _ _ _ h => h) (.inl ⟨by rfl, fun w hw => by dsimp only at hw; go_simp⟩) hHeld ?_
      simp only [Act.put, List.setIfInBounds_toArray, List.set_cons_zero, List.set_cons_succ]
      refine wpAnyH_take (i := 32) (oi := ⟨some 66, _, _, _, _, _⟩) (v := (.bool false)) rfl (by kernel_rfl) (by kernel_rfl) (by kernel_rfl) (fun _ _ _ h => h) (.inl ⟨by rfl, fun w hw => by dsimp only at hw; go_simp⟩) hHeld ?_
      simp only [Act.put, List.setIfInBounds_toArray, List.set_cons_zero, List.set_cons_succ]
      refine wpAnyH_done (by kernel_rfl) ?_ _
      all_goals
        clear hHeld
        have hx : (l[i].data.toList.take 200).length = r2.size := by rw [← Hr.out, size_toList]
        have hcnt : cntL (recL l (i + 1)) = cntL (recL l i) + r2.size + 16 := by rw [recL_succ l i hlt, cntL_append, cntL_one, hx, Nat.add_assoc]
        have h9 : Own w (jL d' j' m (.slice a2 (recL l i ++ [l[i].data.toList.take 200]).length c2) vM D2 (n + r2.size + 30) (recL l (i + 1))) w8 := by
          unfold jL
          rw [hcnt, recL_succ l i hlt]
          exact h8
        rw [← recL_succ l i hlt] at h9 hI2
        have hsm3 := (recL_small l (i + 1) hlt h20).2
        have hRl3 := recL_length l (i + 1) hlt
        have HRl3 := Lib.hid hRl3
        clear hx hcnt h8 cm0 hRl3 hI hO hOd cd
        go_wp2_with fail
        · have i3 : (0 : Int) ≤ (i : Int) / 2 ∧ (i : Int) / 2 ≤ 20 := by omega
          have hq := ints_pair (x := (i : Int)) (y := (i : Int) / 2) (heap_alloc_new w8 (.cells #[.int .i64 i, .int .i64 ((i : Int) / 2)] 3)) (by omega) (by omega)
          refine (own_crash_eq (q := [(i : Int), (i : Int) / 2]) (h9.alloc _) 0 rfl (by omega) (some ⟨w8.heap.size, 0, none⟩) 2 hq (by simp) 2 rfl rfl).mono ?_
          rintro e9 w9 ⟨c, rfl, h10⟩
          clear hq h9
          go_wp2_with fail
          refine (own_opened (R := recL l (i + 1)) h10 5 rfl rfl (by omega) (hI2.crash _).good).mono ?_
          rintro e10 w10 ⟨j3, v3, D3, rfl, hI3, hlim3, h11⟩
          obtain ⟨a3, c3, rfl⟩ := strs_form (h11.strs 7 rfl).1
          have Hlim3 := Lib.hid hlim3
          clear hlim3 h10
          go_wp2_with fail
          refine (own_opens h11 2 3 7 rfl rfl rfl (by decide) (by decide) (by rw [HRl3.out]; omega) (by omega)).mono ?_
          rintro e11 w11 ⟨rfl, v4, h12⟩
          go_wp2_with fail
          go_roundw
          case rel =>
            refine ⟨i + 1, c, j3, 1, v4, .slice none 0 0, D3, rfl, rfl, rfl, by go_num, hlt, h20, by omega, hI3, Hlim3, ?_⟩
            refine (own_nil h12).reidx (fun a => if a = 0 then 5 else if a = 1 then 6 else if a = 4 then 8 else a) (fun a U ha => ?_) (fun a b ha hb e => ?_)
            · match a, ha with
              | 0, ha => exact ha
              | 1, ha => exact ha
              | 2, ha => exact ha
              | 3, ha => exact ha
              | 4, ha => exact ha
              | a + 5, ha => simp [jL] at ha
            · have ha' : a < 5 := ha
              have hb' : b < 5 := hb
              split at e <;> split at e <;> (try split at e) <;> (try split at e) <;> (try split at e) <;> (try split at e) <;> omega
          case measure => simp [intOf]; omega
        · refine (own_opened (R := recL l (i + 1)) h9 0 rfl (off_free Hlim2.out) (by omega) hI2.good).mono ?_
          rintro e10 w10 ⟨j3, v3, D3, rfl, hI3, hlim3, h10⟩
          obtain ⟨a3, c3, rfl⟩ := strs_form (h10.strs 6 rfl).1
          have Hlim3 := Lib.hid (hlim3.trans Hlim2.out)
          clear hlim3 h9
          go_wp2_with fail
          refine (own_opens h10 2 3 6 rfl rfl rfl (by decide) (by decide) (by rw [HRl3.out]; omega) (by omega)).mono ?_
          rintro e11 w11 ⟨rfl, v4, h11⟩
          go_wp2_with fail
          go_roundw
          case rel =>
            refine ⟨i + 1, d', j3, n + r2.size + 31, v4, .slice none 0 0, D3, rfl, rfl, rfl, by go_num, hlt, h20, by omega, hI3, Hlim3, ?_⟩
            refine (own_nil h11).reidx (fun a => if a = 0 then 0 else if a = 1 then 5 else if a = 4 then 7 else a) (fun a U ha => ?_) (fun a b ha hb e => ?_)
            · match a, ha with
              | 0, ha => exact ha
              | 1, ha => exact ha
              | 2, ha => exact ha
              | 3, ha => exact ha
              | 4, ha => exact ha
              | a + 5, ha => simp [jL] at ha
            · have ha' : a < 5 := ha
              have hb' : b < 5 := hb
              split at e <;> split at e <;> (try split at e) <;> (try split at e) <;> (try split at e) <;> (try split at e) <;> omega
          case measure => simp [intOf]; omega
        · go_roundw
          case rel => exact ⟨i + 1, d', j', n + r2.size + 30, _, vM, D2, rfl, rfl, rfl, by go_num, hlt, h20, by omega, hI2, Hlim2, h9⟩
          case measure => simp [intOf]; omega
    · have hcase : ¬ ((i : Int) < l.length) ∨ ((i : Int) < l.length ∧ ¬ ((i : Int) < 20)) := by omega
      have hRl := recL_length l i hil
      have HRl := Lib.hid hRl
      clear hlt hRl hI
      obtain ⟨a2, c2, rfl⟩ := strs_form (hO.strs 3 rfl).1
      obtain ⟨cm0, -⟩ := hO.rcells (m := m) 2 rfl
      rw [HRl.out] at cm0
      have hmany : (((Jn.of (recL l i)).many : Nat) : Int) = (i : Int) := by show (((recL l i).length : Nat) : Int) = _; rw [HRl.out]
      have Hmany := Lib.hid hmany
      clear hmany
      have hOd := hO.drew
      rcases hcase with hc1 | ⟨hc1, hc2⟩
      all_goals
        go_upto_region 17 with fail
        go_region_held3 (fun w' => w'.cell? ⟨m, 0, none⟩ = some (.slice a2 i c2)) (exact cm0) ((go_at_call 45; refine (own_many (J := Jn.of (recL l i)) hOd 1 rfl).mono ?_; rintro e9 w9 ⟨rfl, rfl⟩; rw [Hmany.out]))
        go_wp2_with fail
        go_ret
        exact ⟨rfl, hOd.frm⟩

theorem law_keeps_int (ao : Option Addr) (cap : Nat) (l : List ByteArray) (again crash : Int) (w : World) (hl : ArgStrs w ao l) (hlen : l.length ≤ 9223372036854775807) (ha : 0 ≤ again ∧ again ≤ 4294967295) (hc : 0 ≤ crash ∧ crash ≤ 4294967295) :
    Calls Try.prog 13 #[.slice ao l.length cap, .int .u32 again, .int .u32 crash] w fun e w' => e = .returned (.bool true) ∧ Frm (fun _ => False) w w' := by
  obtain ⟨x, rfl⟩ := Int.eq_ofNat_of_zero_le ha.1
  obtain ⟨y, rfl⟩ := Int.eq_ofNat_of_zero_le hc.1
  exact law_keeps ao cap l x y w hl hlen (by omega) (by omega)
end Go.Proofs.Ytehdjajeonemoaa
