/-
  The law DateUndo. Conditions: the package variables read as the text lays them.
-/
import Derived.Test.YtmpfgdpicbpedaaDoorRLay
import Derived.Test.YtmpfgdpicbpedaaDoorRFmt
import Derived.Test.YtmpfgdpicbpedaaDoorRTwo
namespace Go.Proofs.YtmpfgdpicbpedaaDoor
open Go.RowKit Go.Shelf
attribute [local go_sem] Oper.semAt_some

theorem format_at (s : ByteArray) (hs : s.size ≤ 9223372036854775807) (hr : rightB s.data.toList = true) (n : Int) (hn : inB n = true) (w : World) (hT : Tabs w) :
    Calls Tryd.prog 22 #[.string s, .int .i64 n] w fun e w' => (∃ (X : ByteArray) (y m d : Nat), Civ n y m d ∧ e = .returned (.tuple #[.string X, .bool true]) ∧ X.data.toList = fmtL y m d s.data.toList ∧ X.size ≤ 1000000) ∧ Frm (fun _ => False) w w' := by
  refine (format_any s hs n w hT).mono ?_
  rintro e w' ⟨hf, f⟩
  refine ⟨?_, f⟩
  rcases hf with ⟨hno, rfl⟩ | ⟨-, y, m, d, hc, rfl⟩
  · rw [hn, hr] at hno; cases hno
  · refine ⟨⟨(fmtL y m d s.data.toList).toArray⟩, y, m, d, hc, rfl, rfl, ?_⟩
    obtain ⟨y', m', d', e1, e2, e3, b1, b2, b3⟩ := hc.nat
    have e1 : y = y' := by omega
    have e2 : m = m' := by omega
    have e3 : d = d' := by omega
    subst e1; subst e2; subst e3
    show (fmtL y m d s.data.toList).toArray.size ≤ _
    rw [List.size_toArray]
    unfold fmtL
    have hl := right_len hr
    have hp := parts_len s.data.toList
    have key : ∀ ps : List (List UInt8), (∀ t ∈ ps, Form t) → (ps.flatMap (fmtP y m d)).length ≤ 10004 * ps.length := by
      intro ps
      induction ps with
      | nil => intro _; simp
      | cons t ps ih =>
        intro h
        have h1 := fmtP_len y m d b1 b2 b3 (h t (by simp))
        have h2 := ih (fun x hx => h x (by simp [hx]))
        rw [List.flatMap_cons, List.length_append, List.length_cons]
        omega
    have := key (parts s.data.toList) (parts_form _)
    omega

set_option maxRecDepth 100000 in
set_option maxHeartbeats 2000000 in
theorem law_undo (a c x0 x1 x2 : Int) (w : World) (hT : Tabs w) (ha : 0 ≤ a ∧ a ≤ 4294967295) (hc : 0 ≤ c ∧ c ≤ 4294967295) (n0 : -9223372036854775808 ≤ x0 ∧ x0 ≤ 9223372036854775807) (n1 : -9223372036854775808 ≤ x1 ∧ x1 ≤ 9223372036854775807) (n2 : -9223372036854775808 ≤ x2 ∧ x2 ≤ 9223372036854775807) :
    Calls Tryd.prog 10 #[.int .u32 a, .int .u32 c, .agg #[.int .i64 x0, .int .i64 x1, .int .i64 x2]] w fun e w' => e = .returned (.bool true) ∧ Frm (fun _ => False) w w' := by
  obtain ⟨a0, a1⟩ := ha
  obtain ⟨c0, c1⟩ := hc
  go_enter Tryd.func10, Tryd.ntmps10
  go_wp2_with fail
  have h0 := (Own.start w).box #[.int .i64 x0, .int .i64 x1, .int .i64 x2] 22
  obtain ⟨W0, hW0⟩ : ∃ W, W = w.alloc (.cells #[.int .i64 x0, .int .i64 x1, .int .i64 x2] 22) := ⟨_, rfl⟩
  obtain ⟨A, hA⟩ : ∃ b, b = w.heap.size := ⟨_, rfl⟩
  rw [← hW0, ← hA] at h0 ⊢
  clear hW0 hA
  refine (sanity_any W0 (hT.frm h0.frm)).mono ?_
  rintro e W1 ⟨rfl, f1⟩
  have h1 := h0.still f1
  clear f1 h0
  obtain ⟨q0, q1, q2, -, -, -⟩ := cells3' (h1.obj (x := A) (cs := #[.int .i64 x0, .int .i64 x1, .int .i64 x2]) (t := 22) 0 rfl)
  go_wp2_with fail
  have b0 : inB (a % 3652059) = true := by unfold inB; rw [decide_eq_true_iff]; omega
  have b1 : inB (c % 3652059) = true := by unfold inB; rw [decide_eq_true_iff]; omega
  generalize a % 3652059 = m at b0 ⊢
  generalize c % 3652059 = n at b1 ⊢
  have B0 := Lib.hid b0
  have B1 := Lib.hid b1
  clear b0 b1
  refine (lay_any x0 x1 x2 false _ n0 n1 n2).mono ?_
  rintro e W2 ⟨⟨X, rfl, hX, hr⟩, f2⟩
  have h2 := h1.still f2
  have Hr := Lib.hid (hr rfl)
  clear f2 h1 hr q0 q1 q2
  go_wp2_with fail
  refine (format_at X (by omega) Hr.out m B0.out _ (hT.frm h2.frm)).mono ?_
  rintro e W3 ⟨⟨S, y, mo, d, hcv, rfl, hS, hSs⟩, f3⟩
  have h3 := h2.still f3
  have Hcv := Lib.hid hcv
  have HS := Lib.hid hS
  clear f3 h2 hcv hS
  go_wp2_with fail
  refine (format_at X (by omega) Hr.out n B1.out _ (hT.frm h3.frm)).mono ?_
  rintro e W4 ⟨⟨T, y', mo', d', hcv', rfl, hS', hSs'⟩, f4⟩
  have h4 := h3.still f4
  have Hcv' := Lib.hid hcv'
  have HS' := Lib.hid hS'
  clear f4 h3 hcv' hS'
  go_wp2_with fail
  refine (read_day (n := m) X S ⟨Hr.out, y, mo, d, Hcv.out, HS.out.symm⟩ (by omega) (by omega) _ (hT.frm h4.frm)).mono ?_
  rintro e W5 ⟨rfl, f5⟩
  have h5 := h4.still f5
  clear f5 h4
  go_wp2_with fail
  refine (format_at ⟨#[89, 89, 89, 89, 45, 77, 77, 45, 68, 68]⟩ (by decide) iso_right m B0.out _ (hT.frm h5.frm)).mono ?_
  rintro e W6 ⟨⟨I, y2, mo2, d2, hcv2, rfl, hI, hIs⟩, f6⟩
  have h6 := h5.still f6
  obtain ⟨u1, u2, u3⟩ := hcv2.uniq Hcv.out
  have hI2 : Value.string I = strV (fmtL y2 mo2 d2 isoL) := by
    unfold strV
    exact congrArg Value.string (WideShapes.bytes_inj hI)
  have HI := Lib.hid hI2
  have Hcv2 := Lib.hid hcv2
  clear f6 h5 hI hI2 hcv2 u1 u2 u3
  have HT := Lib.hid (text_civ Hcv2.out W6 (hT.frm h6.frm))
  have hfr := h6.frm
  clear h6
  have eI : (I.toList == I.toList) = true := by simp
  by_cases hmn : m = n
  · subst hmn
    obtain rfl : S = T := by
      obtain ⟨u1, u2, u3⟩ := Hcv.out.uniq Hcv'.out
      apply WideShapes.bytes_inj
      rw [HS.out, HS'.out]
      have u1 : y = y' := by omega
      have u2 : mo = mo' := by omega
      have u3 : d = d' := by omega
      rw [u1, u2, u3]
    have eS : (S.toList == S.toList) = true := by simp
    go_wp2_with fail
    refine HT.out.mono ?_
    rintro e W7 ⟨rfl, f7⟩
    rw [← HI.out]
    go_wp2_with fail
    go_ret
    exact ⟨rfl, hfr.trans f7⟩
  · have e1 : (m == n) = false := beq_eq_false_iff_ne.2 hmn
    have e2 : (S.toList == T.toList) = false := by
      rw [beq_eq_false_iff_ne, toList_data, toList_data, HS.out, HS'.out]
      intro e
      obtain ⟨p1, p2, p3, p4, p5, p6, p7, p8, p9⟩ := Hcv.out.nat
      obtain ⟨r1, r2, r3, r4, r5, r6, r7, r8, r9⟩ := Hcv'.out.nat
      obtain ⟨g1, g2, g3⟩ := fmt_inj Hr.out (by omega) (by omega) (by omega) (by omega) (by omega) (by omega) e
      have k1 := Hcv.out.2
      have k2 := Hcv'.out.2
      rw [g1, g2, g3] at k1
      exact hmn (k1.symm.trans k2)
    clear hmn
    go_wp2_with fail
    refine HT.out.mono ?_
    rintro e W7 ⟨rfl, f7⟩
    rw [← HI.out]
    go_wp2_with fail
    go_ret
    exact ⟨rfl, hfr.trans f7⟩
end Go.Proofs.YtmpfgdpicbpedaaDoor
