/-
  The law's own sanity, and date.Text. Conditions: the package variables read as the text lays them.
-/
import Derived.Test.YtmpfgdpicbpedaaDoorRead
namespace Go.Proofs.YtmpfgdpicbpedaaDoor
open Go.RowKit Go.Shelf
attribute [local go_sem] Oper.semAt_some

/-- The layout of a date's text. -/
def isoL : List UInt8 := [89, 89, 89, 89, 45, 77, 77, 45, 68, 68]
def dmyL : List UInt8 := [68, 46, 77, 46, 89, 89, 89, 89]
theorem iso_right : rightB isoL = true := by decide
theorem dmy_right : rightB dmyL = true := by decide
/-- What Text answers. -/
def txtO (n : Int) (e : Ending) : Prop := (inB n = false ∧ e = .returned (.string ⟨#[]⟩)) ∨ ∃ y m d : Nat, Civ n y m d ∧ e = .returned (strV (fmtL y m d isoL))

theorem format_civ {n : Int} {y m d : Nat} (h : Civ n y m d) (s : ByteArray) (hs : s.size ≤ 9223372036854775807) (hr : rightB s.data.toList = true) (w : World) (hT : Tabs w) :
    Calls Tryd.prog 22 #[.string s, .int .i64 n] w fun e w' => e = .returned (.tuple #[strV (fmtL y m d s.data.toList), .bool true]) ∧ Frm (fun _ => False) w w' := by
  refine (format_any s hs n w hT).mono ?_
  rintro e w' ⟨hf, f⟩
  refine ⟨?_, f⟩
  rcases hf with ⟨hno, rfl⟩ | ⟨-, y', m', d', hc, rfl⟩
  · rw [in_iff.2 h.bd, hr] at hno
    simp at hno
  · obtain ⟨e1, e2, e3⟩ := hc.uniq h
    have e1 : y' = y := by omega
    have e2 : m' = m := by omega
    have e3 : d' = d := by omega
    rw [e1, e2, e3]

theorem format_no {n : Int} (s : ByteArray) (hs : s.size ≤ 9223372036854775807) (hr : (inB n && rightB s.data.toList) = false) (w : World) (hT : Tabs w) :
    Calls Tryd.prog 22 #[.string s, .int .i64 n] w fun e w' => e = .returned (.tuple #[.string ⟨#[]⟩, .bool false]) ∧ Frm (fun _ => False) w w' := by
  refine (format_any s hs n w hT).mono ?_
  rintro e w' ⟨hf, f⟩
  refine ⟨?_, f⟩
  rcases hf with ⟨hno, rfl⟩ | ⟨hr2, y', m', d', hc, rfl⟩
  · rfl
  · rw [in_iff.2 hc.bd, hr2] at hr
    simp at hr

set_option maxHeartbeats 1000000 in
theorem text_any (n : Int) (w : World) (hT : Tabs w) : Calls Tryd.prog 27 #[.int .i64 n] w fun e w' => txtO n e ∧ Frm (fun _ => False) w w' := by
  have hf := format_any ⟨#[89, 89, 89, 89, 45, 77, 77, 45, 68, 68]⟩ (by decide) n w hT
  have Hf := Lib.hid hf
  clear hf
  go_enter Tryd.func27, Tryd.ntmps27
  go_wp2_with fail
  refine Hf.out.mono ?_
  rintro e w1 ⟨hf, f1⟩
  rcases hf with ⟨hno, rfl⟩ | ⟨-, y, m, d, hc, rfl⟩
  · have Hno := Lib.hid hno
    clear hno
    go_wp2_with fail
    go_ret
    refine ⟨.inl ⟨?_, rfl⟩, f1⟩
    have := Hno.out
    rw [show rightB (⟨#[89, 89, 89, 89, 45, 77, 77, 45, 68, 68]⟩ : ByteArray).data.toList = true from iso_right, Bool.and_true] at this
    exact this
  · unfold strV
    obtain ⟨X, hX⟩ : ∃ X : ByteArray, X = ⟨(fmtL y m d (⟨#[89, 89, 89, 89, 45, 77, 77, 45, 68, 68]⟩ : ByteArray).data.toList).toArray⟩ := ⟨_, rfl⟩
    rw [← hX]
    have HX := Lib.hid hX
    have Hc := Lib.hid hc
    clear hX hc
    go_wp2_with fail
    go_ret
    exact ⟨.inr ⟨y, m, d, Hc.out, by rw [HX.out]; rfl⟩, f1⟩

theorem text_civ {n : Int} {y m d : Nat} (h : Civ n y m d) (w : World) (hT : Tabs w) : Calls Tryd.prog 27 #[.int .i64 n] w fun e w' => e = .returned (strV (fmtL y m d isoL)) ∧ Frm (fun _ => False) w w' := by
  refine (text_any n w hT).mono ?_
  rintro e w' ⟨hf, f⟩
  refine ⟨?_, f⟩
  rcases hf with ⟨hno, rfl⟩ | ⟨y', m', d', hc, rfl⟩
  · rw [in_iff.2 h.bd] at hno
    simp at hno
  · obtain ⟨e1, e2, e3⟩ := hc.uniq h
    have e1 : y' = y := by omega
    have e2 : m' = m := by omega
    have e3 : d' = d := by omega
    rw [e1, e2, e3]

theorem IsDay.uniq {l s : List UInt8} {n k : Int} (h : IsDay l s n) (g : IsDay l s k) : n = k := by
  obtain ⟨y, m, d, hc, -, h2, -⟩ := h.rd
  obtain ⟨y', m', d', hc', -, h2', -⟩ := g.rd
  rw [h2] at h2'
  injection h2' with e
  injection e with e1 e2
  injection e2 with e2 e3
  subst e1; subst e2; subst e3
  exact hc.2.symm.trans hc'.2

theorem read_day {n : Int} (s t : ByteArray) (h : IsDay s.data.toList t.data.toList n) (hs : s.size ≤ 9223372036854775807) (ht : t.size ≤ 9223372036854775807) (w : World) (hT : Tabs w) :
    Calls Tryd.prog 25 #[.string s, .string t] w fun e w' => e = .returned (.tuple #[.int .i64 n, .bool true]) ∧ Frm (fun _ => False) w w' := by
  refine (read_any s t hs ht w hT).mono ?_
  rintro e w' ⟨hf, f⟩
  refine ⟨?_, f⟩
  rcases hf with ⟨hno, rfl⟩ | ⟨k, hk, rfl⟩
  · exact absurd h (hno n)
  · rw [hk.uniq h]
theorem read_no (s t : ByteArray) (h : ∀ n, ¬ IsDay s.data.toList t.data.toList n) (hs : s.size ≤ 9223372036854775807) (ht : t.size ≤ 9223372036854775807) (w : World) (hT : Tabs w) :
    Calls Tryd.prog 25 #[.string s, .string t] w fun e w' => e = .returned (.tuple #[.int .i64 0, .bool false]) ∧ Frm (fun _ => False) w w' := by
  refine (read_any s t hs ht w hT).mono ?_
  rintro e w' ⟨hf, f⟩
  refine ⟨?_, f⟩
  rcases hf with ⟨-, rfl⟩ | ⟨k, hk, rfl⟩
  · rfl
  · exact absurd hk (h k)

theorem months_civ {n y m d : Int} (h : Civ n y m d) (k : Int) (w : World) (hT : Tabs w) (hk1 : -9223372036854775808 ≤ k) (hk2 : k ≤ 9223372036854775807) : Calls Tryd.prog 19 #[.int .i64 n, .int .i64 k] w fun e w' => e = .returned (monR y m d k) ∧ w = w' := by
  refine (months_any n k w hT hk1 hk2).mono ?_
  rintro e w' ⟨hf, f⟩
  refine ⟨?_, f⟩
  rcases hf with ⟨hno, rfl⟩ | ⟨y', m', d', hc, rfl⟩
  · rw [in_iff.2 h.bd] at hno
    simp at hno
  · obtain ⟨rfl, rfl, rfl⟩ := hc.uniq h
    rfl
theorem civil_civ {n y m d : Int} (h : Civ n y m d) (w : World) (hT : Tabs w) : Calls Tryd.prog 17 #[.int .i64 n] w fun e w' => e = .returned (.tuple #[.int .i64 y, .int .i64 m, .int .i64 d, .bool true]) ∧ w = w' := by
  refine (civil_any n w hT).mono ?_
  rintro e w' ⟨hf, f⟩
  refine ⟨?_, f⟩
  rcases hf with ⟨hno, rfl⟩ | ⟨y', m', d', hc, rfl⟩
  · rw [in_iff.2 h.bd] at hno
    simp at hno
  · obtain ⟨rfl, rfl, rfl⟩ := hc.uniq h
    rfl

/-! ### The numbers of the law's own test -/
theorem pads : pad 29 1 = [50, 57] ∧ pad 2 1 = [50] ∧ pad 2000 4 = [50, 48, 48, 48] := by
  refine ⟨?_, ?_, ?_⟩ <;> simp [pad_step, pad_zero, dig] <;> decide
theorem isoP (y m d : Nat) : fmtL y m d isoL = pad y 4 ++ ([45] ++ (pad m 2 ++ ([45] ++ pad d 2))) := by
  unfold fmtL
  rw [show parts isoL = [fY, [45], fMM, [45], fDD] by decide]
  simp [fmtP, fY, fMM, fM, fDD, fD]
theorem dmyP (y m d : Nat) : fmtL y m d dmyL = pad d 1 ++ ([46] ++ (pad m 1 ++ ([46] ++ pad y 4))) := by
  unfold fmtL
  rw [show parts dmyL = [fD, [46], fM, [46], fY] by decide]
  simp [fmtP, fY, fMM, fM, fDD, fD]

theorem pads2 : pad 2024 4 = [50, 48, 50, 52] ∧ pad 2 2 = [48, 50] ∧ pad 29 2 = [50, 57] ∧ pad 2025 4 = [50, 48, 50, 53] ∧ pad 28 2 = [50, 56] ∧ pad 2023 4 = [50, 48, 50, 51] ∧ pad 12 2 = [49, 50] ∧ pad 31 2 = [51, 49] := by
  refine ⟨?_, ?_, ?_, ?_, ?_, ?_, ?_, ?_⟩ <;> simp [pad_step, pad_zero, dig] <;> decide

theorem day_yes : IsDay dmyL [50, 57, 46, 50, 46, 50, 48, 48, 48] 730178 :=
  ⟨dmy_right, 2000, 2, 29, ⟨rfl, rfl⟩, by rw [dmyP, pads.1, pads.2.1, pads.2.2]; rfl⟩
theorem day_no (n : Int) : ¬ IsDay dmyL [50, 57, 46, 48, 50, 46, 50, 48, 48, 48] n := by
  intro h
  obtain ⟨y, m, d, -, hf, h2, -⟩ := h.rd
  rw [show rd (parts dmyL) [50, 57, 46, 48, 50, 46, 50, 48, 48, 48] (0, 0, 0) = some (2000, 2, 29) by decide] at h2
  injection h2 with e
  injection e with e1 e2
  injection e2 with e2 e3
  subst e1; subst e2; subst e3
  rw [dmyP, pads.1, pads.2.1, pads.2.2] at hf
  exact absurd hf (by decide)

set_option maxRecDepth 100000 in
set_option maxHeartbeats 8000000 in
theorem sanity_any (w : World) (hT : Tabs w) : Calls Tryd.prog 13 #[] w fun e w' => e = .returned (.bool true) ∧ Frm (fun _ => False) w w' := by
  go_enter Tryd.func13, Tryd.ntmps13
  go_wp2_with fail
  refine (num_any 1 1 1 _ hT).mono ?_
  rintro e w' ⟨rfl, rfl⟩
  rw [show numR 1 1 1 = .tuple #[.int .i64 0, .bool true] from rfl]
  go_wp2_with fail
  refine (num_any 1 12 31 _ hT).mono ?_
  rintro e w' ⟨rfl, rfl⟩
  rw [show numR 1 12 31 = .tuple #[.int .i64 364, .bool true] from rfl]
  go_wp2_with fail
  refine (num_any 2 1 1 _ hT).mono ?_
  rintro e w' ⟨rfl, rfl⟩
  rw [show numR 2 1 1 = .tuple #[.int .i64 365, .bool true] from rfl]
  go_wp2_with fail
  refine (num_any 2000 2 29 _ hT).mono ?_
  rintro e w' ⟨rfl, rfl⟩
  rw [show numR 2000 2 29 = .tuple #[.int .i64 730178, .bool true] from rfl]
  go_wp2_with fail
  refine (num_any 1900 2 29 _ hT).mono ?_
  rintro e w' ⟨rfl, rfl⟩
  rw [show numR 1900 2 29 = .tuple #[.int .i64 0, .bool false] from rfl]
  go_wp2_with fail
  refine (civil_civ (n := 3652058) (y := 9999) (m := 12) (d := 31) ⟨rfl, rfl⟩ _ hT).mono ?_
  rintro e w' ⟨rfl, rfl⟩
  go_wp2_with fail
  refine (week_any 3652058 _).mono ?_
  rintro e w' ⟨rfl, rfl⟩
  rw [show wkR 3652058 = .tuple #[.int .i64 5, .bool true] from rfl]
  go_wp2_with fail
  refine (num_any 2024 1 31 _ hT).mono ?_
  rintro e w' ⟨rfl, rfl⟩
  rw [show numR 2024 1 31 = .tuple #[.int .i64 738915, .bool true] from rfl]
  go_wp2_with fail
  refine (months_civ (n := 738915) (y := 2024) (m := 1) (d := 31) ⟨rfl, rfl⟩ 1 _ hT (by decide) (by decide)).mono ?_
  rintro e w' ⟨rfl, rfl⟩
  rw [show monR 2024 1 31 1 = .tuple #[.int .i64 738944, .bool true] from rfl]
  go_wp2_with fail
  refine (months_civ (n := 738915) (y := 2024) (m := 1) (d := 31) ⟨rfl, rfl⟩ 13 _ hT (by decide) (by decide)).mono ?_
  rintro e w' ⟨rfl, rfl⟩
  rw [show monR 2024 1 31 13 = .tuple #[.int .i64 739309, .bool true] from rfl]
  go_wp2_with fail
  refine (months_civ (n := 738915) (y := 2024) (m := 1) (d := 31) ⟨rfl, rfl⟩ (-1) _ hT (by decide) (by decide)).mono ?_
  rintro e w' ⟨rfl, rfl⟩
  rw [show monR 2024 1 31 (-1) = .tuple #[.int .i64 738884, .bool true] from rfl]
  go_wp2_with fail
  refine (format_civ (n := 730178) (y := 2000) (m := 2) (d := 29) ⟨rfl, rfl⟩ ⟨#[68, 46, 77, 46, 89, 89, 89, 89]⟩ (by decide) dmy_right _ hT).mono ?_
  rintro e w1 ⟨rfl, f1⟩
  have hT1 := hT.frm f1
  rw [show strV (fmtL 2000 2 29 (⟨#[68, 46, 77, 46, 89, 89, 89, 89]⟩ : ByteArray).data.toList) = .string ⟨#[50, 57, 46, 50, 46, 50, 48, 48, 48]⟩ by show strV (fmtL 2000 2 29 dmyL) = _; rw [dmyP, pads.1, pads.2.1, pads.2.2]; rfl]
  go_wp2_with fail
  refine (read_day (n := 730178) ⟨#[68, 46, 77, 46, 89, 89, 89, 89]⟩ ⟨#[50, 57, 46, 50, 46, 50, 48, 48, 48]⟩ day_yes (by decide) (by decide) _ hT1).mono ?_
  rintro e w2 ⟨rfl, f2⟩
  have hT2 := hT1.frm f2
  have g2 := f1.trans f2
  clear f1 f2 hT1
  go_wp2_with fail
  refine (read_no ⟨#[68, 46, 77, 46, 89, 89, 89, 89]⟩ ⟨#[50, 57, 46, 48, 50, 46, 50, 48, 48, 48]⟩ day_no (by decide) (by decide) _ hT2).mono ?_
  rintro e w3 ⟨rfl, f3⟩
  have hT3 := hT2.frm f3
  have g3 := g2.trans f3
  clear f3 g2 hT2
  go_wp2_with fail
  refine (format_no (n := 0) ⟨#[68, 77, 89, 89, 89, 89]⟩ (by decide) (by decide) _ hT3).mono ?_
  rintro e w4 ⟨rfl, f4⟩
  have hT4 := hT3.frm f4
  have g4 := g3.trans f4
  clear f4 g3 hT3
  go_wp2_with fail
  refine (text_civ (n := 738944) (y := 2024) (m := 2) (d := 29) ⟨rfl, rfl⟩ _ hT4).mono ?_
  rintro e w5 ⟨rfl, f5⟩
  have hT5 := hT4.frm f5
  have g5 := g4.trans f5
  clear f5 g4 hT4
  rw [show strV (fmtL 2024 2 29 isoL) = .string ⟨#[50, 48, 50, 52, 45, 48, 50, 45, 50, 57]⟩ by rw [isoP, pads2.1, pads2.2.1, pads2.2.2.1]; rfl]
  go_wp2_with fail
  refine (text_civ (n := 739309) (y := 2025) (m := 2) (d := 28) ⟨rfl, rfl⟩ _ hT5).mono ?_
  rintro e w6 ⟨rfl, f6⟩
  have hT6 := hT5.frm f6
  have g6 := g5.trans f6
  clear f6 g5 hT5
  rw [show strV (fmtL 2025 2 28 isoL) = .string ⟨#[50, 48, 50, 53, 45, 48, 50, 45, 50, 56]⟩ by rw [isoP, pads2.2.2.2.1, pads2.2.1, pads2.2.2.2.2.1]; rfl]
  go_wp2_with fail
  refine (text_civ (n := 738884) (y := 2023) (m := 12) (d := 31) ⟨rfl, rfl⟩ _ hT6).mono ?_
  rintro e w7 ⟨rfl, f7⟩
  have hT7 := hT6.frm f7
  have g7 := g6.trans f7
  clear f7 g6 hT6
  rw [show strV (fmtL 2023 12 31 isoL) = .string ⟨#[50, 48, 50, 51, 45, 49, 50, 45, 51, 49]⟩ by rw [isoP, pads2.2.2.2.2.2.1, pads2.2.2.2.2.2.2.1, pads2.2.2.2.2.2.2.2]; rfl]
  go_wp2_with fail
  go_ret
  exact ⟨rfl, g7⟩
end Go.Proofs.YtmpfgdpicbpedaaDoor
