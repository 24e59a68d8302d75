/-
  The law JournalCrashes: what its code does. Conditions: none beyond the arguments in memory.
-/
import Derived.Test.YtehdjajeonemoaaJSan
import Derived.Test.YtehdjajeonemoaaJTwo
namespace Go.Proofs.Ytehdjajeonemoaa
open Go.RowKit

/-- The bytes of an argument, in memory. -/
def BytesAt (w : World) (ao : Option Addr) (l : List Nat) : Prop := ∀ i (h : i < l.length), ∃ b o, ao = some ⟨b, o, none⟩ ∧ w.cell? ⟨b, o + i, none⟩ = some (.int .u8 (l[i] : Nat)) ∧ l[i] ≤ 255

theorem run_ix_mod (bf o i n c : Nat) (h : i % n < n) (w : World) : (Instr.indexAt 56 (.slice (some ⟨bf, o, none⟩) n c) (.int .i64 ((i : Int) % (n : Int)))).run Try.prog w = .ok (.pointer (some ⟨bf, o + i % n, none⟩)) w := by
  have e0 : (0 : Int) ≤ (i : Int) % (n : Int) := Int.emod_nonneg _ (by omega)
  have e1 : (i : Int) % (n : Int) < (n : Int) := by omega
  have e2 : ((i : Int) % (n : Int)).toNat = i % n := by omega
  rw [run_indexAt_slice _ 56 _ _ _ _ _ (by kernel_rfl)]
  rw [if_pos ⟨e0, e1⟩, e2]
  go_simp

set_option maxRecDepth 100000 in
set_option maxHeartbeats 8000000 in
theorem law_torn (ao : Option Addr) (cap : Nat) (l : List ByteArray) (af : Option Addr) (capf : Nat) (fl : List Nat) (aq : Option Addr) (capq : Nat) (q : List Int) (w : World) (hl : ArgStrs w ao l) (_hlen : l.length ≤ 9223372036854775807) (hf : BytesAt w af fl) (hfl : fl.length ≤ 9223372036854775807) (hq : IntsAt w aq q) (hql : q.length ≤ 9223372036854775807) :
    Calls Try.prog 14 #[.slice ao l.length cap, .slice af fl.length capf, .slice aq q.length capq] w fun e w' => e = .returned (.bool true) ∧ Frm (fun _ => False) w w' := by
  have Hl := Lib.hid hl
  have Hq := Lib.hid hq
  have Hf := Lib.hid hf
  clear hl hq hf
  go_enter Try.func14, Try.ntmps14
  go_wp2_with fail
  refine (jsanity_any w).mono ?_
  rintro e w1 ⟨rfl, f1⟩
  have h1 := (Own.start w).still f1
  clear f1
  go_wp2_with fail
  refine (own_new h1).mono ?_
  rintro e w2 ⟨d, rfl, h2⟩
  go_wp2_with fail
  refine (own_opened (R := []) h2 0 rfl rfl (by decide) Good.nil).mono ?_
  rintro e w3 ⟨j, v, D1, rfl, i1, l1, h3⟩
  clear l1 h1 h2
  obtain ⟨a0, c0, rfl⟩ := strs_form (h3.strs 2 rfl).1
  go_wp2_with fail
  refine (own_rjnew h3).mono ?_
  rintro e w4 ⟨m, rfl, h4⟩
  clear h3
  have h5 : Own w [diskT d D1 10, jT j d (Jn.of []), rT m (.slice none 0 0) (.slice none 0 0) ⟨false, cntL []⟩, strsT (.slice none 0 0) [], strsT (.slice none 0 0) []] w4 := by
    refine (h4.widen (n' := 10) 0 rfl (by decide)).reidx (fun a => if a ≤ 1 then a else a + 1) (fun a U ha => ?_) (fun a b _ _ e => by split at e <;> split at e <;> omega)
    match a, ha with
    | 0, ha => exact ha
    | 1, ha => exact ha
    | 2, ha => exact ha
    | 3, ha => exact ha
    | 4, ha => exact ha
    | a + 5, ha => simp at ha
  clear h4
  go_wp2_with fail
  go_loopw [8, 9, 11, 13] (fun sd sj se si wr => ∃ (i d j n : Nat) (vL vM : Value) (D : Dk) (R : List (List UInt8)), sd = .pointer (some ⟨d, 0, none⟩) ∧ sj = .pointer (some ⟨j, 0, none⟩) ∧ se = .int .i64 0 ∧ si = .int .i64 i ∧ i ≤ l.length ∧ i ≤ 20 ∧ n ≤ 1000 * i + 10 ∧ Intact D R ∧ Hid (Small R) ∧ R.length ≤ i ∧ Own w [diskT d D n, jT j d (Jn.of R), rT m vL vM ⟨false, cntL R⟩, strsT vL R, strsT vM []] wr) (fun _ _ _ i _ => 20 - (intOf i).toNat)
  case atStart => exact ⟨0, d, j, 10, _, _, D1, [], rfl, rfl, rfl, rfl, Nat.zero_le _, Nat.zero_le _, by omega, i1, Small.nil, Nat.zero_le _, h5⟩
  case round =>
    clear h5 i1
    obtain ⟨i, d, j, n, vL, vM, D, R, rfl, rfl, rfl, rfl, hil, hi20, hn, hI, HS, hRi, hO⟩ := hrel
    by_cases hlt : i < l.length ∧ i < 20
    · obtain ⟨hlt, h20⟩ := hlt
      obtain ⟨b, o, rfl, cs, hsz⟩ := Hl.out.at' i hlt
      have i0 : (0 : Int) ≤ i := by omega
      have i1 : (i : Int) < l.length := by omega
      have i2 : (i : Int) < 20 := by omega
      have hcase : fl.length = 0 ∨ 0 < fl.length := by omega
      rcases hcase with hz | hz
      have Hz := Lib.hid hz
      clear hz
      have cc := hO.frm.cell cs (fun h => h)
      go_wp2_with fail
      · exfalso
        have := Hz.out
        omega
      clear Hz
      have h6 : Own w [diskT d D (n + 10), jT j d (Jn.of R), rT m vL vM ⟨false, cntL R⟩, strsT vL R, strsT vM []] wr := hO.widen (n' := n + 10) 0 rfl (by omega)
      have hI6 : Intact D R := hI
      rotate_left
      have hz' : (0 : Int) < fl.length := by omega
      have hmod : i % fl.length < fl.length := Nat.mod_lt _ hz
      obtain ⟨bf, of, rfl, cf0, hfsz⟩ := Hf.out (i % fl.length) hmod
      obtain ⟨x, hx⟩ : ∃ x, x = fl[i % fl.length] := ⟨_, rfl⟩
      rw [← hx] at cf0 hfsz
      have cf := hO.frm.cell cf0 (fun h => h)
      have hix := run_ix_mod bf of i fl.length capf hmod wr
      clear hx cf0
      go_wp2_with fail
      go_simp
      go_wp2_with fail
      refine (own_fail hO 0 rfl ((x : Int) % 9) (n + 10) (by omega) (by omega)).mono ?_
      rintro e w5 ⟨rfl, h5⟩
      have h6 : Own w [diskT d (D.fail ((x : Int) % 9)) (n + 10), jT j d (Jn.of R), rT m vL vM ⟨false, cntL R⟩, strsT vL R, strsT vM []] w5 := h5
      have hI6 := hI.fail ((x : Int) % 9)
      have cc := h6.frm.cell cs (fun h => h)
      clear h5 cf hix
      go_wp2_with fail
      all_goals
        refine (short_any l[i] _ hsz).mono ?_
        rintro e5 w5 ⟨⟨r, rfl, hr⟩, rfl⟩
        have hrs : r.size = (l[i].data.toList.take 200).length := by rw [← hr, size_toList]
        have hr200 : r.size ≤ 200 := by rw [hrs]; simp; omega
        have Hr := Lib.hid hr
        clear hr hrs hO hI cc
        go_wp2_with fail
        refine (own_append_both (b := false) (M := []) h6 0 1 rfl rfl (by decide) (.inl ⟨hI6, rfl, rfl, rfl⟩) HS.out (by omega) r hr200 (by omega)).mono ?_
        rintro e8 w8 ⟨c, D8, J8, rfl, hA, h8⟩
        have cc := h8.frm.cell cs (fun h => h)
        clear h6 hI6
        have hrl : r.data.toList.length = r.size := size_toList r
        have hsums := (HS.out.sums (n := 20) (by omega)).2
        have hS8 := Lib.hid (HS.out.snoc (x := r.data.toList) (by omega))
        have hcn : cntL (R ++ [r.data.toList]) = cntL R + r.size + 16 := by rw [cntL_append, cntL_one, size_toList]; omega
        have Hcn := Lib.hid hcn
        clear hcn hrl
        rcases hA with ⟨-, -, rfl, hI8, rfl⟩ | ⟨-, -, rfl, hT8, rfl⟩ | ⟨hx, -⟩
        · go_wp2_with fail
          refine (short_any l[i] _ hsz).mono ?_
          rintro e9 w9 ⟨⟨r2, rfl, hr2⟩, rfl⟩
          obtain rfl : r2 = r := WideShapes.bytes_inj (hr2.trans Hr.out.symm)
          clear hr2
          go_wp2_with fail
          refine (own_rapp h8 2 3 rfl rfl (by decide) rfl r2 (by show cntL R + _ + _ + _ ≤ _; omega) (by omega)).mono ?_
          rintro e10 w10 ⟨rfl, v', h10⟩
          clear h8 cc
          go_wp2_with fail
          refine (own_fail h10 0 rfl (-1) (n + 310) (by omega) (by omega)).mono ?_
          rintro e11 w11 ⟨rfl, h11⟩
          have hI11 := hI8.fail (-1)
          clear h10 hI8
          go_wp2_with fail
          go_roundw
          case rel => first | exact ⟨i + 1, d, j, n + 310, v', vM, _, R ++ [r2.data.toList], rfl, rfl, rfl, by go_num, hlt, h20, by omega, hI11, hS8, by simp; omega, by rw [Hcn.out]; exact h11⟩ | ((repeat apply Exists.intro); exact ⟨⟨i + 1, d, j, n + 310, v', vM, _, R ++ [r2.data.toList], rfl, rfl, rfl, by go_num, hlt, h20, by omega, hI11, hS8, by simp; omega, by rw [Hcn.out]; exact h11⟩, rfl⟩)
          case measure => simp [intOf]; omega
        · go_wp2_with fail
          refine (short_any l[i] _ hsz).mono ?_
          rintro e9 w9 ⟨⟨r2, rfl, hr2⟩, rfl⟩
          obtain rfl : r2 = r := WideShapes.bytes_inj (hr2.trans Hr.out.symm)
          clear hr2
          go_wp2_with fail
          refine (own_rapp_off h8 2 4 rfl rfl (by decide) rfl r2 (by show cntL R + _ + _ + _ ≤ _; omega) (by simp)).mono ?_
          rintro e10 w10 ⟨rfl, vM', h10⟩
          clear h8 cc
          have h11 : Own w [diskT d D8 (n + 10 + 300), jT j d { Jn.of R with broken := true }, rT m vL vM' ⟨true, cntL R⟩, strsT vL R, strsT vM' [r2.data.toList]] w10.drew := h10.drew
          clear h10
          obtain ⟨aL, cL, rfl⟩ := strs_form (h11.strs 3 rfl).1
          obtain ⟨cm0, -⟩ := h11.rcells (m := m) 2 rfl
          go_upto_region 18 with fail
          refine wp_region_held_drew (S := fun w' => w'.cell? ⟨m, 0, none⟩ = some (.slice aL R.length cL)) (by kernel_rfl) cm0 (fun hHeld => ?_)
          clear cm0
          refine wpAnyH_take (i := 0) (oi := ⟨some 84, _, _, _, _, _⟩) (v := (.pointer (some ⟨j, 0, none⟩))) rfl (by kernel_rfl) (by kernel_rfl) (by kernel_rfl) (fun _ _ _ h => h) (.inl ⟨by rfl, fun w hw => by dsimp only at hw; go_simp⟩) hHeld ?_
          simp only [Act.put, List.setIfInBounds_toArray, List.set_cons_zero, List.set_cons_succ]
          refine wpAnyH_ready (rs := [1]) (by kernel_rfl) (by simp) ?_
          refine AllReadyH.cons (o := ⟨some 85, _, _, _, _, _⟩) rfl (fun K hK => ?_) AllReadyH.nil
          go_simp
          refine (own_japp_broken (J := { Jn.of R with broken := true }) h11 1 rfl rfl _).mono ?_
          rintro e12 w12 ⟨rfl, h12⟩
          clear h11
          refine hK.out _ _ (h12.rcells (m := m) 2 rfl).1 (fun hHeld => ?_)
          clear hK K
          refine wpAnyH_take (i := 2) (oi := ⟨some 86, _, _, _, _, _⟩) (v := (.bool false)) rfl (by kernel_rfl) (by kernel_rfl) (by kernel_rfl) (fun _ _ _ h => h) (.inl ⟨by rfl, fun w hw => by dsimp only at hw; go_simp⟩) hHeld ?_
          simp only [Act.put, List.setIfInBounds_toArray, List.set_cons_zero, List.set_cons_succ]
          refine wpAnyH_take (i := 3) (oi := ⟨some 87, _, _, _, _, _⟩) (v := (.bool false)) rfl (by kernel_rfl) (by kernel_rfl) (by kernel_rfl) (fun _ _ _ h => h) (.inl ⟨by rfl, fun w hw => by dsimp only at hw; go_simp⟩) hHeld ?_
          simp only [Act.put, List.setIfInBounds_toArray, List.set_cons_zero, List.set_cons_succ]
          refine wpAnyH_take (i := 4) (oi := ⟨some 88, _, _, _, _, _⟩) (v := (.pointer (some ⟨j, 0, none⟩))) rfl (by kernel_rfl) (by kernel_rfl) (by kernel_rfl) (fun _ _ _ h => h) (.inl ⟨by rfl, fun w hw => by dsimp only at hw; go_simp⟩) hHeld ?_
          simp only [Act.put, List.setIfInBounds_toArray, List.set_cons_zero, List.set_cons_succ]
          refine wpAnyH_take (i := 6) (oi := ⟨some 90, _, _, _, _, _⟩) (v := (.pointer (some ⟨m, 0, none⟩))) rfl (by kernel_rfl) (by kernel_rfl) (by kernel_rfl) (fun _ _ _ h => h) (.inl ⟨by rfl, fun w hw => by dsimp only at hw; go_simp⟩) hHeld ?_
          simp only [Act.put, List.setIfInBounds_toArray, List.set_cons_zero, List.set_cons_succ]
          refine wpAnyH_take (i := 7) (oi := ⟨some 91, _, _, _, _, _⟩) (v := (.pointer (some ⟨m, 0, none⟩))) rfl (by kernel_rfl) (by kernel_rfl) (by kernel_rfl) (fun _ _ _ h => h) (.inl ⟨by rfl, fun w hw => by dsimp only at hw; go_simp⟩) hHeld ?_
          simp only [Act.put, List.setIfInBounds_toArray, List.set_cons_zero, List.set_cons_succ]
          refine wpAnyH_take (i := 8) (oi := ⟨some 92, _, _, _, _, _⟩) (v := (.pointer (some ⟨m, 0, none⟩))) rfl (by kernel_rfl) (by kernel_rfl) (by kernel_rfl) (fun _ _ _ h => h) (.inl ⟨by rfl, fun w hw => by dsimp only at hw; go_simp⟩) hHeld ?_
          simp only [Act.put, List.setIfInBounds_toArray, List.set_cons_zero, List.set_cons_succ]
          refine wpAnyH_take (i := 9) (oi := ⟨some 93, _, _, _, _, _⟩) (v := (.slice aL R.length cL)) rfl (by kernel_rfl) (by kernel_rfl) (by kernel_rfl) (fun _ _ _ h => h) (.inl ⟨by rfl, fun w hw => by dsimp only at hw; go_simp⟩) hHeld ?_
          simp only [Act.put, List.setIfInBounds_toArray, List.set_cons_zero, List.set_cons_succ]
          refine wpAnyH_take (i := 10) (oi := ⟨some 94, _, _, _, _, _⟩) (v := (.int .i64 R.length)) rfl (by kernel_rfl) (by kernel_rfl) (by kernel_rfl) (fun _ _ _ h => h) (.inl ⟨by rfl, fun w hw => by dsimp only at hw; go_simp⟩) hHeld ?_
          simp only [Act.put, List.setIfInBounds_toArray, List.set_cons_zero, List.set_cons_succ]
          refine wpAnyH_ready (rs := [5]) (by kernel_rfl) (by simp) ?_
          refine AllReadyH.cons (o := ⟨some 89, _, _, _, _, _⟩) rfl (fun K hK => ?_) AllReadyH.nil
          go_simp
          refine (own_many (J := { Jn.of R with broken := true }) h12 1 rfl).mono ?_
          rintro e13 w13 ⟨rfl, rfl⟩
          rw [show ((({ Jn.of R with broken := true } : Jn).many : Nat) : Int) = (R.length : Int) from rfl]
          refine hK.out _ _ hHeld (fun hHeld => ?_)
          clear hK K
          refine wpAnyH_take (i := 11) (oi := ⟨some 95, _, _, _, _, _⟩) (v := (.bool false)) rfl (by kernel_rfl) (by kernel_rfl) (by kernel_rfl) (fun _ _ _ h => h) (.inl ⟨by rfl, fun w hw => by dsimp only at hw; go_simp⟩) hHeld ?_
          simp only [Act.put, List.setIfInBounds_toArray, List.set_cons_zero, List.set_cons_succ]
          refine wpAnyH_take (i := 12) (oi := ⟨some 96, _, _, _, _, _⟩) (v := (.bool false)) rfl (by kernel_rfl) (by kernel_rfl) (by kernel_rfl) (fun _ _ _ h => h) (.inl ⟨by rfl, fun w hw => by dsimp only at hw; go_simp⟩) hHeld ?_
          simp only [Act.put, List.setIfInBounds_toArray, List.set_cons_zero, List.set_cons_succ]
          refine wpAnyH_done (by kernel_rfl) ?_ _
          clear hHeld
          go_wp2_with fail
          refine (own_crash h12 0 rfl (by omega) aq capq q (Hq.out.frm h12.frm (fun _ _ _ h => h)) hql).mono ?_
          rintro e14 w14 ⟨c, rfl, h14⟩
          clear h12
          have hb8 : Both D8 { Jn.of R with broken := true } true R [r2.data.toList] := .inr ⟨_, hT8, rfl, rfl, rfl, by rw [size_toList]; omega⟩
          have hmb := hb8.crash q
          clear hb8 hT8
          go_wp2_with fail
          refine (own_open_both (b := true) (R := R) (M := [r2.data.toList]) h14 5 rfl rfl (by omega) hmb).mono ?_
          rintro e15 w15 ⟨j6, v6, D6, R6, rfl, hM6, hI6, hlim6, h15⟩
          clear hlim6 hmb h14
          obtain ⟨hS6, hR6⟩ := hM6.small HS.out
          have HM := Lib.hid hM6
          have HI := Lib.hid hI6
          have HS6 := Lib.hid hS6
          clear hM6 hI6 hS6
          obtain ⟨a6, c6, rfl⟩ := strs_form (h15.strs 7 rfl).1
          go_wp2_with fail
          refine (own_opens_both h15 2 3 4 7 rfl rfl rfl rfl (by decide) (by decide) HS.out (by omega) HM.out).mono ?_
          rintro e16 w16 ⟨rfl, v7, h16⟩
          clear h15
          go_wp2_with fail
          go_roundw
          case rel =>
            have hrel : ∃ (i_1 d_1 j_1 n : Nat) (vL vM : Value) (D : Dk) (R : List (List UInt8)), Value.pointer (some ⟨c, 0, none⟩) = .pointer (some ⟨d_1, 0, none⟩) ∧ Value.pointer (some ⟨j6, 0, none⟩) = .pointer (some ⟨j_1, 0, none⟩) ∧ Value.int .i64 0 = .int .i64 0 ∧ Value.int .i64 ((i : Int) + 1) = .int .i64 i_1 ∧ i_1 ≤ l.length ∧ i_1 ≤ 20 ∧ n ≤ 1000 * i_1 + 10 ∧ Intact D R ∧ Hid (Small R) ∧ R.length ≤ i_1 ∧ Own w [diskT d_1 D n, jT j_1 d_1 (Jn.of R), rT m vL vM ⟨false, cntL R⟩, strsT vL R, strsT vM []] w16 := by
              refine ⟨i + 1, c, j6, 1, v7, .slice none 0 0, D6, R6, rfl, rfl, rfl, by go_num, hlt, h20, by omega, HI.out, HS6, by omega, ?_⟩
              refine (own_nil h16).reidx (fun a => if a = 0 then 5 else if a = 1 then 6 else if a = 4 then 8 else a) (fun a U ha => ?_) (fun a b ha hb e => ?_)
              · match a, ha with
                | 0, ha => exact ha
                | 1, ha => exact ha
                | 2, ha => exact ha
                | 3, ha => exact ha
                | 4, ha => exact ha
                | a + 5, ha => simp at ha
              · have ha' : a < 5 := ha
                have hb' : b < 5 := hb
                split at e <;> split at e <;> (try split at e) <;> (try split at e) <;> (try split at e) <;> (try split at e) <;> omega
            first | exact hrel | ((repeat apply Exists.intro); exact ⟨hrel, rfl⟩)
          case measure => simp [intOf]; omega
        · cases hx
    · have hcase : ¬ ((i : Int) < l.length) ∨ ((i : Int) < l.length ∧ ¬ ((i : Int) < 20)) := by omega
      clear hlt
      obtain ⟨aL, cL, rfl⟩ := strs_form (hO.strs 3 rfl).1
      rcases hcase with hc1 | ⟨hc1, hc2⟩
      all_goals
        go_wp2_with fail
        refine (own_crash hO 0 rfl (by omega) aq capq q (Hq.out.frm hO.frm (fun _ _ _ h => h)) hql).mono ?_
        rintro e8 w8 ⟨c, rfl, h8⟩
        clear hO
        go_wp2_with fail
        refine (own_opened (R := R) h8 5 rfl rfl (by omega) (hI.crash q).good).mono ?_
        rintro e9 w9 ⟨j9, v9, D9, rfl, hI9, hlim9, h9⟩
        clear h8 hI9 hlim9
        obtain ⟨a9, c9, rfl⟩ := strs_form (h9.strs 7 rfl).1
        obtain ⟨cm0, -⟩ := h9.rcells (m := m) 2 rfl
        have sa := (h9.strsAt 7 rfl).1
        have sb := (h9.strsAt 3 rfl).1
        have hs := jsame_any a9 aL c9 cL R R w9 sa sb (by omega) (by omega)
        rw [decide_eq_true rfl] at hs
        have Hs := Lib.hid hs
        clear hs sa sb
        go_wp2_with fail
        refine Hs.out.mono ?_
        rintro e w10 ⟨rfl, n3, rfl⟩
        have h10 := h9.drewN n3
        go_wp2_with fail
        go_ret
        exact ⟨rfl, h10.frm⟩
end Go.Proofs.Ytehdjajeonemoaa
