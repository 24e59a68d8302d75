/-
  The law JournalFull: what its code does. Conditions: none beyond the arguments in memory.
-/
import Derived.Test.YtehdjajeonemoaaJSan
import Derived.Test.YtehdjajeonemoaaArgJ
import Derived.Deep.OwnRows
namespace Go.Proofs.Ytehdjajeonemoaa
open Go.RowKit

/-- The numbers of an argument, in memory. -/
def WordsAt (w : World) (ao : Option Addr) (l : List Nat) : Prop := ∀ i (h : i < l.length), ∃ b o, ao = some ⟨b, o, none⟩ ∧ w.cell? ⟨b, o + i, none⟩ = some (.int .u32 (l[i] : Nat)) ∧ l[i] ≤ 4294967295

theorem make_text : ∃ cs : Array Value, cs.toList = (List.replicate 16777216 (0 : UInt8)).map bv ∧ ∀ w : World, (Instr.makeSlice 56 (.int .i64 16777216) (.int .i64 16777216)).run Try.prog w = .ok (.slice (some ⟨w.heap.size, 0, none⟩) 16777216 16777216) (w.alloc (.cells cs 5)) := by
  obtain ⟨i0, hi, hz0, hz1, hz2⟩ := info_parts Try.info5
  refine ⟨madeCells #[.int .u8 0] 16777216, ?_, fun w => ?_⟩
  · have hm := madeBytes 16777216
    rw [Nat.mul_one, show (Value.int IntKind.u8 0).cells = #[Value.int .u8 0] from rfl] at hm
    exact hm
  · exact run_make_row (P := Try.prog) 56 5 i0 (.int .u8 0) Try.underlying56 hi hz0 hz1 rfl .i64 .i64 16777216 (by rw [hz2]; decide) (by decide) w

theorem conv_text (N x tb : Nat) (cs : Array Value) (hcs : cs.toList = (List.replicate N (0 : UInt8)).map bv) (hx : x ≤ N) (hN : N ≤ 16777216) (w : World) (h : w.heap[tb]? = some (.cells cs 5 (0, 0))) :
    (convert 56 9 (.slice (some ⟨tb, 0, none⟩) x N)).run Try.prog w = .ok (.string ⟨(List.replicate x 0).toArray⟩) w := by
  have hsz : cs.size = N := by rw [← Array.length_toList, hcs]; simp
  have hb : Bts w 5 (.slice (some ⟨tb, 0, none⟩) N N) (List.replicate N 0) := by
    refine ⟨by simp, .inr ⟨tb, N, cs, by rw [List.length_replicate], Nat.zero_le _, h, by simp, by unfold maxLen; omega, by omega, ?_⟩⟩
    rw [hcs, Nat.mul_one]
    exact List.take_of_length_le (by simp)
  have := run_bytes_string (P := Try.prog) (w := w) hb 56 9 Try.underlying56 Try.underlying5 Try.underlying9 (some ⟨tb, 0, none⟩) x N 0 (by simpa using hx) (fun _ => ⟨tb, N, N, rfl, rfl⟩)
  rw [this, List.drop_zero, List.take_replicate, Nat.min_eq_left hx]

theorem cnt_sum (R : List (List UInt8)) : cntL R = sumL R + 16 * R.length := by
  induction R with
  | nil => rfl
  | cons r R ih =>
    have e1 : sumL (r :: R) = r.length + sumL R := by simp [sumL]
    have e2 : cntL (r :: R) = r.length + 16 + cntL R := by simp [cntL]
    rw [e1, e2, List.length_cons, ih]
    omega
theorem fits_cnt (R : List (List UInt8)) (n : Nat) : (Jn.of R).fits n = decide (cntL R + n + 16 + 256 ≤ 16777216) := by
  show decide (sumL R + n + 16 * (R.length + 1) + 256 ≤ 16777216) = _
  rw [cnt_sum]
  apply decide_eq_decide.2
  omega

theorem zero_text (x : Nat) : ∃ Z : ByteArray, (⟨(List.replicate x (0 : UInt8)).toArray⟩ : ByteArray) = Z ∧ Z.size = x ∧ Z.data.toList.length = x := by
  refine ⟨_, rfl, ?_, ?_⟩
  · show (List.replicate x (0 : UInt8)).toArray.size = x
    simp
  · simp

set_option maxRecDepth 100000 in
set_option maxHeartbeats 8000000 in
theorem law_full (ao : Option Addr) (cap : Nat) (l : List Nat) (last : Nat) (w : World) (hl : WordsAt w ao l) (_hlen : l.length ≤ 9223372036854775807) (hlast : last ≤ 4294967295) :
    Calls Try.prog 17 #[.slice ao l.length cap, .int .u32 last] w fun e w' => e = .returned (.bool true) ∧ Frm (fun _ => False) w w' := by
  have Hl := Lib.hid hl
  clear hl
  go_enter Try.func17, Try.ntmps17
  go_wp2_with fail
  refine (jsanity_any w).mono ?_
  rintro e w1 ⟨rfl, f1⟩
  have h1 := (Own.start w).still f1
  clear f1
  go_wp2_with fail
  refine (own_new h1).mono ?_
  rintro e w2 ⟨d, rfl, h2⟩
  go_wp2_with fail
  refine (own_opened (R := []) h2 0 rfl rfl (by decide) Good.nil).mono ?_
  rintro e w3 ⟨j, v, D1, rfl, i1, l1, h3⟩
  have L1 := Lib.hid l1
  clear l1 h1 h2
  obtain ⟨a0, c0, rfl⟩ := strs_form (h3.strs 2 rfl).1
  obtain ⟨cs, hcs, hmk0⟩ := make_text
  have hmk := hmk0 w3
  have h4 := h3.box cs 5
  have Hcs := Lib.hid hcs
  clear hmk0 hcs
  go_wp2_with fail
  clear hmk
  obtain ⟨tb, htb⟩ : ∃ b, b = w3.heap.size := ⟨_, rfl⟩
  obtain ⟨w4, hw4⟩ : ∃ w', w' = w3.alloc (.cells cs 5) := ⟨_, rfl⟩
  rw [← htb, ← hw4] at h4 ⊢
  have h5 : Own w [diskT d D1 1, jT j d (Jn.of []), strsT (.slice a0 0 c0) [], cellT tb cs 5] w4 := h4
  clear h3 h4 htb hw4
  go_loopw [10, 11, 13] (fun sb sm si wr => ∃ (i n : Nat) (R : List (List UInt8)) (D : Dk), sb = .int .i64 (cntL R) ∧ sm = .int .i64 R.length ∧ si = .int .i64 i ∧ i ≤ l.length ∧ i ≤ 6 ∧ n ≤ 10000000 * i + 100 ∧ cntL R ≤ 16777216 ∧ R.length ≤ i ∧ Intact D R ∧ Hid (D.limited = false) ∧ Own w [diskT d D n, jT j d (Jn.of R), strsT (.slice a0 0 c0) [], cellT tb cs 5] wr) (fun _ _ i _ => 6 - (intOf i).toNat)
  case atStart => exact ⟨0, 1, [], D1, rfl, rfl, rfl, Nat.zero_le _, Nat.zero_le _, by omega, Nat.zero_le _, Nat.zero_le _, i1, L1, h5⟩
  case round =>
    obtain ⟨i, n, R, D, rfl, rfl, rfl, hil, hi6, hn, hcnt, hRi, hI, hlim, hO⟩ := hrel
    clear h5 i1
    by_cases hlt : i < l.length ∧ i < 6
    · obtain ⟨hlt, h6⟩ := hlt
      obtain ⟨b, o, rfl, cs0, hsz⟩ := Hl.out i hlt
      have cc := hO.frm.cell cs0 (fun h => h)
      obtain ⟨x, hx⟩ : ∃ x : Nat, ((l[i] : Nat) : Int) % 8388608 = (x : Int) := ⟨l[i] % 8388608, by omega⟩
      have hx2 : x < 8388608 := by omega
      have i0 : (0 : Int) ≤ i := by omega
      have i1 : (i : Int) < l.length := by omega
      have i2 : (i : Int) < 6 := by omega
      obtain ⟨Z, hZ, hZs, hZl⟩ := zero_text x
      have hcv := conv_text 16777216 x tb cs Hcs.out (by omega) (Nat.le_refl _) wr (hO.obj 3 rfl)
      rw [hZ] at hcv
      have HZs := Lib.hid hZs
      have HZl := Lib.hid hZl
      have Hx := Lib.hid hx
      clear hZ hZs hZl cs0 hsz
      generalize hB : cntL R = B at hcnt ⊢
      have HB := Lib.hid hB
      clear hB
      by_cases hf : B + x + 16 + 256 ≤ 16777216
      · have hff : (Jn.of R).fits Z.size = true := by rw [fits_cnt, HB.out, HZs.out]; exact decide_eq_true hf
        have t1 : decide ((16777216 : Int) < (B : Int) + x + 16 + 256) = false := by rw [decide_eq_false_iff_not]; omega
        have hf' : (B : Int) + x + 16 + 256 ≤ 16777216 := by omega
        have Hff := Lib.hid hff
        clear hff hf
        go_wp2_with fail
        refine (own_append_on (R := R) hO 0 1 rfl rfl (by decide) hI hlim.out Z Hff.out (by rw [HZs.out]; omega)).mono ?_
        rintro e6 w6 ⟨rfl, D2, hI2, hlim2, h6'⟩
        have Hlim2 := Lib.hid hlim2
        clear hlim2 hcv cc hO
        go_wp2_with fail
        go_roundw
        case rel =>
          have e1 : cntL (R ++ [Z.data.toList]) = B + x + 16 := by rw [cntL_append, cntL_one, HB.out, HZl.out]; omega
          have e2 : (R ++ [Z.data.toList]).length = R.length + 1 := by simp
          exact ⟨i + 1, n + Z.size + 30, R ++ [Z.data.toList], D2, by rw [e1]; go_num, by rw [e2]; go_num, by go_num, hlt, h6, by rw [HZs.out]; omega, by omega, by omega, hI2, Hlim2, h6'⟩
        case measure => simp [intOf]; omega
      · have hff : (Jn.of R).fits Z.size = false := by rw [fits_cnt, HB.out, HZs.out]; exact decide_eq_false hf
        have t1 : decide ((16777216 : Int) < (B : Int) + x + 16 + 256) = true := by rw [decide_eq_true_iff]; omega
        have hf' : (16777216 : Int) < (B : Int) + x + 16 + 256 := by omega
        have hsm : sumL R ≤ B := by have := cnt_sum R; have := HB.out; omega
        have Hff := Lib.hid hff
        clear hff hf
        go_wp2_with fail
        refine (own_japp_full hO 1 rfl rfl Z Hff.out (by rw [HZs.out]; omega) (show R.length ≤ _ by omega) (show sumL R ≤ _ by omega)).mono ?_
        rintro e6 w6 ⟨rfl, h6'⟩
        clear hcv cc hO
        go_wp2_with fail
        go_roundw
        case rel => exact ⟨i + 1, n, R, D, by rw [HB.out], rfl, by go_num, hlt, h6, by omega, by rw [HB.out]; exact hcnt, by omega, hI, hlim, h6'⟩
        case measure => simp [intOf]; omega
    · have hcase : ¬ ((i : Int) < l.length) ∨ ((i : Int) < l.length ∧ ¬ ((i : Int) < 6)) := by omega
      obtain ⟨x, hx⟩ : ∃ x : Nat, ((last : Nat) : Int) % 16777216 = (x : Int) := ⟨last % 16777216, by omega⟩
      have hx2 : x < 16777216 := by omega
      obtain ⟨Z, hZ, hZs, hZl⟩ := zero_text x
      have hcv := conv_text 16777216 x tb cs Hcs.out (by omega) (Nat.le_refl _) wr (hO.obj 3 rfl)
      rw [hZ] at hcv
      have HZs := Lib.hid hZs
      have HZl := Lib.hid hZl
      have Hx := Lib.hid hx
      have hRl : R.length ≤ 6 := by omega
      clear hZ hZs hZl hlt
      generalize hB : cntL R = B at hcnt ⊢
      have HB := Lib.hid hB
      clear hB
      have hsm : sumL R ≤ B := by have := cnt_sum R; have := HB.out; omega
      have tests : (∃ g : Bool, (g = true ∧ B + x + 16 + 256 ≤ 16777216 ∨ g = false ∧ ¬ (B + x + 16 + 256 ≤ 16777216)) ∧ decide ((B : Int) + x + 16 + 256 ≤ 16777216) = g ∧ (Jn.of R).fits Z.size = g) := by
        rw [fits_cnt, HB.out, HZs.out]
        by_cases hf : B + x + 16 + 256 ≤ 16777216
        · exact ⟨true, .inl ⟨rfl, hf⟩, by rw [decide_eq_true_iff]; omega, decide_eq_true hf⟩
        · exact ⟨false, .inr ⟨rfl, hf⟩, by rw [decide_eq_false_iff_not]; omega, decide_eq_false hf⟩
      obtain ⟨g, hg, t1, hff⟩ := tests
      rcases hcase with hc1 | ⟨hc1, hc2⟩
      all_goals
        rcases hg with ⟨rfl, hf⟩ | ⟨rfl, hf⟩
        · have Hff := Lib.hid hff
          have hf' : (B : Int) + x + 16 + 256 ≤ 16777216 := by omega
          clear hff hf
          go_wp2_with fail
          refine (own_append_on (R := R) hO 0 1 rfl rfl (by decide) hI hlim.out Z Hff.out (by rw [HZs.out]; omega)).mono ?_
          rintro e6 w6 ⟨rfl, D2, hI2, hlim2, h6'⟩
          clear hlim2 hcv hO
          go_wp2_with fail
          refine (own_crash_eq (q := []) h6' 0 rfl (by rw [HZs.out]; omega) none 0 (fun i hi => absurd hi (Nat.not_lt_zero _)) (by decide) 0 rfl rfl).mono ?_
          rintro e7 w7 ⟨c, rfl, h7⟩
          clear h6'
          go_wp2_with fail
          refine (own_opened (R := R ++ [Z.data.toList]) h7 4 rfl rfl (by omega) (hI2.crash _).good).mono ?_
          rintro e8 w8 ⟨k, v8, D3, rfl, hI3, hlim3, h8⟩
          clear hlim3 h7
          obtain ⟨a8, c8, rfl⟩ := strs_form (h8.strs 6 rfl).1
          have e2 : (R ++ [Z.data.toList]).length = R.length + 1 := by simp
          have hmn : (((Jn.of (R ++ [Z.data.toList])).many : Nat) : Int) = (R.length : Int) + 1 := by show (((R ++ [Z.data.toList]).length : Nat) : Int) = _; rw [e2]; rfl
          have Hmn := Lib.hid hmn
          rw [e2]
          clear e2 hmn
          go_wp2_with fail
          refine (own_many (J := Jn.of (R ++ [Z.data.toList])) h8 1 rfl).mono ?_
          rintro e9 w9 ⟨rfl, rfl⟩
          rw [Hmn.out]
          go_wp2_with fail
          go_ret
          exact ⟨rfl, h8.frm⟩
        · have Hff := Lib.hid hff
          have hf' : (16777216 : Int) < (B : Int) + x + 16 + 256 := by omega
          clear hff hf
          go_wp2_with fail
          refine (own_japp_full hO 1 rfl rfl Z Hff.out (by rw [HZs.out]; omega) (show R.length ≤ _ by omega) (show sumL R ≤ _ by omega)).mono ?_
          rintro e6 w6 ⟨rfl, h6'⟩
          clear hcv hO
          go_wp2_with fail
          refine (own_crash_eq (q := []) h6' 0 rfl (by omega) none 0 (fun i hi => absurd hi (Nat.not_lt_zero _)) (by decide) 0 rfl rfl).mono ?_
          rintro e7 w7 ⟨c, rfl, h7⟩
          clear h6'
          go_wp2_with fail
          refine (own_opened (R := R) h7 4 rfl rfl (by omega) (hI.crash _).good).mono ?_
          rintro e8 w8 ⟨k, v8, D3, rfl, hI3, hlim3, h8⟩
          clear hlim3 h7
          obtain ⟨a8, c8, rfl⟩ := strs_form (h8.strs 6 rfl).1
          go_wp2_with fail
          refine (own_many (J := Jn.of R) h8 1 rfl).mono ?_
          rintro e9 w9 ⟨rfl, rfl⟩
          rw [show (((Jn.of R).many : Nat) : Int) = (R.length : Int) from rfl]
          go_wp2_with fail
          go_ret
          exact ⟨rfl, h8.frm⟩

theorem law_full_int (ao : Option Addr) (cap : Nat) (l : List Nat) (last : Int) (w : World) (hl : WordsAt w ao l) (hlen : l.length ≤ 9223372036854775807) (hlast : 0 ≤ last ∧ last ≤ 4294967295) :
    Calls Try.prog 17 #[.slice ao l.length cap, .int .u32 last] w fun e w' => e = .returned (.bool true) ∧ Frm (fun _ => False) w w' := by
  obtain ⟨x, rfl⟩ := Int.eq_ofNat_of_zero_le hlast.1
  exact law_full ao cap l x w hl hlen (by omega)
end Go.Proofs.Ytehdjajeonemoaa
