/-
  The law JournalApart: what its code does. Conditions: none beyond the arguments in memory.
-/
import Derived.Test.YtehdjajeonemoaaJSan
import Derived.Test.YtehdjajeonemoaaArgJ
namespace Go.Proofs.Ytehdjajeonemoaa
open Go.RowKit

theorem recL_le (l : List ByteArray) (i : Nat) : ∀ r ∈ recL l i, r.length ≤ 200 := by
  intro r hr
  obtain ⟨s, -, rfl⟩ := List.mem_map.1 hr
  simp; omega
theorem fits_small {R : List (List UInt8)} (h : ∀ r ∈ R, r.length ≤ 200) (hl : R.length ≤ 20) (s : ByteArray) (hs : s.size ≤ 200) : (Jn.of R).fits s.size = true := by
  have h1 := (sum_le_mul 200 R h).1
  show decide (sumL R + s.size + 16 * (R.length + 1) + 256 ≤ 16777216) = true
  rw [decide_eq_true_iff]
  omega

theorem strs_pre {w : World} {ao : Option Addr} {A B : List (List UInt8)} (h : StrsAt w ao (A ++ B)) : StrsAt w ao A := by
  intro i hi
  obtain ⟨b, o, h0, h1⟩ := h i (by rw [List.length_append]; omega)
  rw [List.getElem_append_left hi] at h1
  exact ⟨b, o, h0, h1⟩
theorem strs_form2 {w : World} {v : Value} {l : List (List UInt8)} (h : w.ownsRow 0 9 1 v l.length (l.map strV')) : (v = .slice none 0 0 ∧ l = []) ∨ ∃ g cap, v = .slice (some ⟨g, 0, none⟩) l.length cap ∧ l.length ≤ cap ∧ cap ≤ maxLen := by
  rcases h.2 with ⟨rfl, h0⟩ | ⟨g, cap, cur, rfl, -, -, h1, h2, -⟩
  · exact .inl ⟨rfl, List.eq_nil_of_length_eq_zero h0⟩
  · exact .inr ⟨_, _, rfl, h1, h2⟩

set_option maxRecDepth 100000 in
set_option maxHeartbeats 8000000 in
theorem law_apart (ao : Option Addr) (cap : Nat) (l : List ByteArray) (ap : Option Addr) (capp : Nat) (p : List ByteArray) (w : World) (hl : ArgStrs w ao l) (_hlen : l.length ≤ 9223372036854775807) (hp : ArgStrs w ap p) (_plen : p.length ≤ 9223372036854775807) :
    Calls Try.prog 18 #[.slice ao l.length cap, .slice ap p.length capp] w fun e w' => e = .returned (.bool true) ∧ Frm (fun _ => False) w w' := by
  have Hl := Lib.hid hl
  have Hp := Lib.hid hp
  clear hl hp
  go_enter Try.func18, Try.ntmps18
  go_wp2_with fail
  refine (jsanity_any w).mono ?_
  rintro e w1 ⟨rfl, f1⟩
  have h1 := (Own.start w).still f1
  clear f1
  go_wp2_with fail
  refine (own_new h1).mono ?_
  rintro e w2 ⟨d, rfl, h2⟩
  go_wp2_with fail
  refine (own_opened (R := []) h2 0 rfl rfl (by decide) Good.nil).mono ?_
  rintro e w3 ⟨j, v, D1, rfl, i1, l1, h3⟩
  have L1 := Lib.hid l1
  clear l1 h1 h2
  obtain ⟨a0, c0, rfl⟩ := strs_form (h3.strs 2 rfl).1
  have h4 : Own w [diskT d D1 1, jT j d (Jn.of (recL l 0)), strsT (.slice a0 0 c0) []] w3 := h3
  have i2 : Intact D1 (recL l 0) := i1
  clear h3 i1
  go_wp2_with fail
  go_loopw [10] (fun si wr => ∃ (i n : Nat) (D : Dk), si = .int .i64 i ∧ i ≤ l.length ∧ i ≤ 10 ∧ n ≤ 1000 * i + 10 ∧ Intact D (recL l i) ∧ Hid (D.limited = false) ∧ Own w [diskT d D n, jT j d (Jn.of (recL l i)), strsT (.slice a0 0 c0) []] wr) (fun i _ => 10 - (intOf i).toNat)
  case atStart => exact ⟨0, 1, D1, rfl, Nat.zero_le _, Nat.zero_le _, by omega, i2, L1, h4⟩
  case round =>
    obtain ⟨i, n, D, rfl, hil, hi10, hn, hI, hlim, hO⟩ := hrel
    clear h4 i2
    by_cases hlt : i < l.length ∧ i < 10
    · obtain ⟨hlt, h10⟩ := hlt
      obtain ⟨b, o, rfl, cs0, hsz⟩ := Hl.out.at' i hlt
      have cs := hO.frm.cell cs0 (fun h => h)
      go_wp2_with fail
      refine (short_any l[i] _ hsz).mono ?_
      rintro e5 w5 ⟨⟨r, rfl, hr⟩, rfl⟩
      have hr200 : r.size ≤ 200 := by rw [← size_toList, hr]; simp; omega
      have Hr := Lib.hid hr
      clear hr cs
      go_wp2_with fail
      refine (own_append_on (R := recL l i) hO 0 1 rfl rfl (by decide) hI hlim.out r (fits_small (recL_le l i) (by rw [recL_length l i hil]; omega) r hr200) (by omega)).mono ?_
      rintro e6 w6 ⟨rfl, D2, hI2, hlim2, h6⟩
      have Hlim2 := Lib.hid hlim2
      clear hlim2
      rw [Hr.out, ← recL_succ l i hlt] at h6 hI2
      go_wp2_with fail
      go_roundw
      case rel => exact ⟨i + 1, n + r.size + 30, D2, by go_num, hlt, h10, by omega, hI2, Hlim2, h6⟩
      case measure => simp [intOf]; omega
    · have hcase : (l.length ≤ i ∧ l.length ≤ 10) ∨ (i < l.length ∧ 10 ≤ i ∧ 10 < l.length) := by omega
      have hRl := recL_length l i hil
      have HRl := Lib.hid hRl
      clear hlt hRl
      have tests : (∃ mm : Int, (l.length ≤ i ∧ l.length ≤ 10 ∧ mm = l.length ∨ i < l.length ∧ 10 ≤ i ∧ 10 < l.length ∧ mm = 10) ∧ ((i : Int) == mm) = true ∧ ((i : Int) != mm) = false) := by
        rcases hcase with ⟨x1, x2⟩ | ⟨x1, x2, x3⟩
        · exact ⟨l.length, .inl ⟨x1, x2, rfl⟩, by rw [beq_iff_eq]; omega, by rw [bne_eq_false_iff_eq]; omega⟩
        · exact ⟨10, .inr ⟨x1, x2, x3, rfl⟩, by rw [beq_iff_eq]; omega, by rw [bne_eq_false_iff_eq]; omega⟩
      clear hcase
      obtain ⟨mm, ⟨x1, x2, rfl⟩ | ⟨x1, x2, x3, rfl⟩, t1, t2⟩ := tests
      all_goals
        go_wp2_with fail
        refine (own_crash_eq (q := []) hO 0 rfl (by omega) none 0 (fun i hi => absurd hi (Nat.not_lt_zero _)) (by decide) 0 rfl rfl).mono ?_
        rintro e7 w7 ⟨c, rfl, h7⟩
        clear hO
        go_wp2_with fail
        refine (own_opened (R := recL l i) h7 3 rfl rfl (by omega) (hI.crash _).good).mono ?_
        rintro e8 w8 ⟨k, v8, D3, rfl, hI3, hlim3, h8⟩
        have Hlim3 := Lib.hid hlim3
        clear hlim3 h7
        obtain ⟨a8, c8, rfl⟩ := strs_form (h8.strs 5 rfl).1
        rw [HRl.out]
        have h9 : Own w [diskT d D n, jT j d (Jn.of (recL l i)), strsT (.slice a0 0 c0) [], diskT c D3 1, jT k c (Jn.of (recL l i ++ recL p 0)), strsT (.slice a8 (recL l i).length c8) (recL l i)] w8 := by
          have e0 : recL l i ++ recL p 0 = recL l i := List.append_nil _
          rw [e0]
          exact h8
        have i9 : Intact D3 (recL l i ++ recL p 0) := by
          have e0 : recL l i ++ recL p 0 = recL l i := List.append_nil _
          rw [e0]
          exact hI3
        clear h8 hI3
        go_wp2_with fail
        go_loopw [15] (fun si wr => ∃ (t n2 : Nat) (D' : Dk), si = .int .i64 t ∧ t ≤ p.length ∧ t ≤ 10 ∧ n2 ≤ 1000 * t + 10 ∧ Intact D' (recL l i ++ recL p t) ∧ Hid (D'.limited = false) ∧ Own w [diskT d D n, jT j d (Jn.of (recL l i)), strsT (.slice a0 0 c0) [], diskT c D' n2, jT k c (Jn.of (recL l i ++ recL p t)), strsT (.slice a8 (recL l i).length c8) (recL l i)] wr) (fun i _ => 10 - (intOf i).toNat)
        case atStart => exact ⟨0, 1, D3, rfl, Nat.zero_le _, Nat.zero_le _, by omega, i9, Hlim3, h9⟩
        case round =>
          obtain ⟨t, n2, D', rfl, htl, ht10, hn2, hI2, hlim2, hO⟩ := hrel
          clear h9 i9
          by_cases hlt : t < p.length ∧ t < 10
          · obtain ⟨hlt, h10⟩ := hlt
            obtain ⟨b, o, rfl, cs0, hsz⟩ := Hp.out.at' t hlt
            have cs := hO.frm.cell cs0 (fun h => h)
            go_wp2_with fail
            refine (short_any p[t] _ hsz).mono ?_
            rintro e5 w5 ⟨⟨r, rfl, hr⟩, rfl⟩
            have hr200 : r.size ≤ 200 := by rw [← size_toList, hr]; simp; omega
            have Hr := Lib.hid hr
            clear hr cs
            go_wp2_with fail
            refine (own_append_on (R := recL l i ++ recL p t) hO 3 4 rfl rfl (by decide) hI2 hlim2.out r (fits_small (fun r hr => (List.mem_append.1 hr).elim (recL_le l i r) (recL_le p t r)) (by rw [List.length_append, HRl.out, recL_length p t htl]; omega) r hr200) (by omega)).mono ?_
            rintro e6 w6 ⟨rfl, D2, hI4, hlim4, h6⟩
            have Hlim4 := Lib.hid hlim4
            clear hlim4
            rw [Hr.out, List.append_assoc, ← recL_succ p t hlt] at h6 hI4
            go_wp2_with fail
            go_roundw
            case rel => exact ⟨t + 1, n2 + r.size + 30, D2, by go_num, hlt, h10, by omega, hI4, Hlim4, h6⟩
            case measure => simp [intOf]; omega
          · have hcase : (p.length ≤ t ∧ p.length ≤ 10) ∨ (t < p.length ∧ 10 ≤ t ∧ 10 < p.length) := by omega
            have hRp : (recL l i ++ recL p t).length = i + t := by rw [List.length_append, HRl.out, recL_length p t htl]
            have HRp := Lib.hid hRp
            clear hlt hRp
            have tests : (∃ mp : Int, (p.length ≤ t ∧ p.length ≤ 10 ∧ mp = p.length ∨ t < p.length ∧ 10 ≤ t ∧ 10 < p.length ∧ mp = 10) ∧ (((i + t : Nat) : Int) == (i : Int) + mp) = true ∧ ((i : Int) + t == (i : Int) + mp) = true ∧ ((t : Int) == mp) = true) := by
              rcases hcase with ⟨z1, z2⟩ | ⟨z1, z2, z3⟩
              · exact ⟨p.length, .inl ⟨z1, z2, rfl⟩, by rw [beq_iff_eq]; omega, by rw [beq_iff_eq]; omega, by rw [beq_iff_eq]; omega⟩
              · exact ⟨10, .inr ⟨z1, z2, z3, rfl⟩, by rw [beq_iff_eq]; omega, by rw [beq_iff_eq]; omega, by rw [beq_iff_eq]; omega⟩
            clear hcase
            obtain ⟨mp, ⟨z1, z2, rfl⟩ | ⟨z1, z2, z3, rfl⟩, t3, t4, t5⟩ := tests
            all_goals
              go_wp2_with fail
              refine (own_opened (R := recL l i) hO 0 rfl (off_free hlim.out) (by omega) hI.good).mono ?_
              rintro e9 w9 ⟨j2, v9, D5, rfl, hI5, -, h10⟩
              clear hO
              obtain ⟨a9, c9, rfl⟩ := strs_form (h10.strs 7 rfl).1
              rw [HRl.out]
              go_wp2_with fail
              refine (own_opened (R := recL l i ++ recL p t) h10 3 rfl (off_free hlim2.out) (by omega) hI2.good).mono ?_
              rintro e10 w10 ⟨k2, v10, D6, rfl, hI6, -, h11⟩
              clear h10
              rcases strs_form2 (h11.strs 9 rfl).1 with ⟨rfl, hnil⟩ | ⟨g, c10, rfl, hcap, hcap2⟩
              · have hz : i + t = 0 := by rw [← HRp.out, hnil]; rfl
                clear hnil
                first
                  | (exfalso; omega)
                  | (obtain rfl : l = [] := List.eq_nil_of_length_eq_zero (by omega)
                     obtain rfl : p = [] := List.eq_nil_of_length_eq_zero (by omega)
                     obtain rfl : i = 0 := by omega
                     obtain rfl : t = 0 := by omega
                     have sa := (h11.strsAt 7 rfl).1
                     have sb : StrsAt w10 none (recL [] 0) := fun i hi => absurd hi (Nat.not_lt_zero _)
                     clear t1 t2 t3 t4 t5 hz x1 x2 z1 z2
                     go_wp2_with fail
                     refine (jsame_any a9 none c9 0 (recL [] 0) (recL [] 0) w10 sa sb (by decide) (by decide)).mono ?_
                     rintro e12 w12 ⟨rfl, n3, rfl⟩
                     rw [decide_eq_true rfl]
                     have h12 := h11.drewN n3
                     clear h11
                     go_wp2_with fail
                     go_ret
                     exact ⟨rfl, h12.frm⟩)
              · rw [HRp.out] at hcap ⊢
                have hle : i ≤ i + t := Nat.le_add_right _ _
                unfold maxLen at hcap2
                have sa := (h11.strsAt 7 rfl).1
                have sb := strs_pre (h11.strsAt 9 rfl).1
                have hs := jsame_any a9 (some ⟨g, 0, none⟩) c9 c10 (recL l i) (recL l i) w10 sa sb (by rw [HRl.out]; omega) (by rw [HRl.out]; omega)
                rw [HRl.out, decide_eq_true rfl] at hs
                have Hs := Lib.hid hs
                clear hs sa sb
                go_wp2_with fail
                refine Hs.out.mono ?_
                rintro e12 w12 ⟨rfl, n3, rfl⟩
                have h12 := h11.drewN n3
                clear h11
                go_wp2_with fail
                go_ret
                exact ⟨rfl, h12.frm⟩
end Go.Proofs.Ytehdjajeonemoaa
