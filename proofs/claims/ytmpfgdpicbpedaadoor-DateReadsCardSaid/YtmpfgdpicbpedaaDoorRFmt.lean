/-
  Format of the reference: what its code does. Printed by wip/rfmt.py. Conditions: none.
-/
import Derived.Test.YtmpfgdpicbpedaaDoorRRight
namespace Go.Proofs.YtmpfgdpicbpedaaDoor
open Go.RowKit Go.Shelf
attribute [local go_sem] Oper.semAt_some

theorem right_len {l : List UInt8} (h : rightB l = true) : l.length ≤ 40 := by
  unfold rightB at h
  rw [Bool.and_eq_true, Bool.and_eq_true, decide_eq_true_eq] at h
  exact h.1.1
theorem fmtP_len (y m d : Nat) (hy : y ≤ 9999) (hm : m ≤ 12) (hd : d ≤ 31) {t : List UInt8} (ht : Form t) : (fmtP y m d t).length ≤ 10004 := by
  have p1 := pad_len _ y 4 (Nat.le_refl _)
  have p2 := pad_len _ m 2 (Nat.le_refl _)
  have p3 := pad_len _ m 1 (Nat.le_refl _)
  have p4 := pad_len _ d 2 (Nat.le_refl _)
  have p5 := pad_len _ d 1 (Nat.le_refl _)
  have := ht.pos.2
  unfold fmtP
  split
  · omega
  split
  · omega
  split
  · omega
  split
  · omega
  split
  · omega
  · omega
theorem fmt_take (y m d : Nat) {ps : List (List UInt8)} (k : Nat) (hk : k < ps.length) : (ps.take (k + 1)).flatMap (fmtP y m d) = (ps.take k).flatMap (fmtP y m d) ++ fmtP y m d ps[k] := by
  rw [List.take_succ_eq_append_getElem hk, List.flatMap_append]
  simp
theorem cat_str (X Y : ByteArray) (a b c : List UInt8) (hX : X = ⟨a.toArray⟩) (hY : Y = ⟨b.toArray⟩) (h : c = a ++ b) : Value.string (X ++ Y) = strV c := by
  subst hX hY h
  unfold strV
  refine congrArg Value.string (WideShapes.bytes_inj ?_)
  simp

set_option maxRecDepth 100000 in
set_option maxHeartbeats 4000000 in
theorem rformat_any (s : ByteArray) (n : Int) (w : World) : Calls Tryd.prog 23 #[.string s, .int .i64 n] w fun e w' => fmtO n s.data.toList e ∧ Frm (fun _ => False) w w' := by
  go_enter Tryd.func23, Tryd.ntmps23
  go_wp2_with fail
  refine (rcivil_any n w).mono ?_
  rintro e w' ⟨hc, rfl⟩
  rcases hc with ⟨hb, rfl⟩ | ⟨y, m, d, hciv, rfl⟩
  · have Hb := Lib.hid hb
    clear hb
    go_wp2_with fail
    refine (rright_any s _).mono ?_
    rintro e w1 ⟨rfl, f1⟩
    go_wp2_with fail
    go_ret2
    exact ⟨.inl ⟨by rw [Hb.out]; rfl, rfl⟩, f1⟩
  · obtain ⟨y', m', d', rfl, rfl, rfl, hy, hm, hd⟩ := hciv.nat
    have Hciv := Lib.hid hciv
    clear hciv
    go_wp2_with fail
    refine (rright_any s _).mono ?_
    rintro e w1 ⟨rfl, f1⟩
    cases hr : rightB s.data.toList
    · have Hr := Lib.hid hr
      clear hr
      go_wp2_with fail
      go_ret2
      exact ⟨.inl ⟨by rw [Hr.out, Bool.and_false], rfl⟩, f1⟩
    · have hsz := right_len hr
      rw [size_toList] at hsz
      have Hr := Lib.hid hr
      clear hr
      go_wp2_with fail
      refine (rparts_any s (by omega) _).mono ?_
      rintro e w2 ⟨v, rfl, hst, f2, -⟩
      have hform := parts_form s.data.toList
      have hpl := parts_len s.data.toList
      rw [size_toList] at hpl
      have hres : fmtL y' m' d' s.data.toList = (parts s.data.toList).flatMap (fmtP y' m' d') := rfl
      have Hres := Lib.hid hres
      clear hres
      generalize parts s.data.toList = ps at hst hform hpl Hres
      have hpl2 : ps.length ≤ 40 := by omega
      obtain ⟨ao, cap, rfl⟩ := hst.form
      have f3 := f1.trans f2
      clear f1 f2 hpl
      go_wp2_with fail
      go_loopw [11, 13] (fun so sk wr => ∃ (k : Nat) (X : ByteArray), so = .string X ∧ sk = .int .i64 k ∧ k ≤ ps.length ∧ Hid (X = ⟨((ps.take k).flatMap (fmtP y' m' d')).toArray⟩) ∧ X.size ≤ 10004 * k ∧ Strs wr (.slice ao ps.length cap) ps ∧ Frm (fun _ => False) w wr) (fun _ sk _ => ps.length - (intOf sk).toNat)
      case atStart => exact ⟨0, ⟨#[]⟩, rfl, rfl, Nat.zero_le _, by show _ = _; rfl, Nat.zero_le _, hst, f3⟩
      case round =>
        clear hst f3
        obtain ⟨k, X, rfl, rfl, hk, hX, hXs, hst, hf⟩ := hrel
        by_cases hlt : k < ps.length
        · obtain ⟨g, cap', hv, hc, hg⟩ := hst.cell k hlt
          obtain ⟨e1, e2⟩ : ao = some ⟨g, 0, none⟩ ∧ cap = cap' := by injection hv with h1 _ h2; exact ⟨h1, h2⟩
          subst e1
          subst e2
          have hft := fmt_take y' m' d' k hlt
          have hfl := fmtP_len y' m' d' hy hm hd (hform ps[k] (List.getElem_mem hlt))
          have step : ∀ Y : ByteArray, Y = ⟨(fmtP y' m' d' ps[k]).toArray⟩ → X ++ Y = ⟨((ps.take (k + 1)).flatMap (fmtP y' m' d')).toArray⟩ ∧ (X ++ Y).size ≤ 10004 * (k + 1) := by
            intro Y hY
            have h1 := cat_str X Y _ _ _ hX.out hY hft
            unfold strV at h1
            injection h1 with h1
            refine ⟨h1, ?_⟩
            have hYs : Y.size = (fmtP y' m' d' ps[k]).length := by rw [hY]; show (fmtP y' m' d' ps[k]).toArray.size = _; simp
            rw [ByteArray.size_append]
            omega
          have hXs2 : X.size ≤ 400160 := by omega
          have Step := Lib.hid step
          clear hv step hft hfl hX hform
          generalize ps[k] = t at Step hc
          by_cases hfY : t = fY
          · subst hfY
            have hc' : wr.cell? ⟨g, k, none⟩ = some (.string ⟨#[89, 89, 89, 89]⟩) := hc
            obtain ⟨Y, hY⟩ : ∃ Y : ByteArray, Y = ⟨(pad y' 4).toArray⟩ := ⟨_, rfl⟩
            obtain ⟨s1, s2⟩ := Step.out Y hY
            have hYs : Y.size ≤ 20000 := by
              have h1 := pad_len _ y' 4 (Nat.le_refl _)
              rw [hY]
              show (pad y' 4).toArray.size ≤ _
              rw [List.size_toArray]
              omega
            have HY := Lib.hid hY
            have S1 := Lib.hid s1
            clear hc Step hY s1
            go_wp2_with fail
            refine (rdigits_any y' 4 (by omega) (by decide) _).mono ?_
            rintro e w5 ⟨rfl, f5⟩
            unfold strV
            rw [← HY.out]
            go_wp2_with fail
            go_roundw
            case rel => exact ⟨k + 1, _, rfl, by go_num, hlt, S1, s2, hst.frm f5 (fun _ _ h => h), hf.trans f5⟩
            case measure => simp [intOf]; omega
          by_cases hfMM : t = fMM
          · subst hfMM
            have hc' : wr.cell? ⟨g, k, none⟩ = some (.string ⟨#[77, 77]⟩) := hc
            obtain ⟨Y, hY⟩ : ∃ Y : ByteArray, Y = ⟨(pad m' 2).toArray⟩ := ⟨_, rfl⟩
            obtain ⟨s1, s2⟩ := Step.out Y hY
            have hYs : Y.size ≤ 20000 := by
              have h1 := pad_len _ m' 2 (Nat.le_refl _)
              rw [hY]
              show (pad m' 2).toArray.size ≤ _
              rw [List.size_toArray]
              omega
            have HY := Lib.hid hY
            have S1 := Lib.hid s1
            clear hc Step hY s1
            go_wp2_with fail
            refine (rdigits_any m' 2 (by omega) (by decide) _).mono ?_
            rintro e w5 ⟨rfl, f5⟩
            unfold strV
            rw [← HY.out]
            go_wp2_with fail
            go_roundw
            case rel => exact ⟨k + 1, _, rfl, by go_num, hlt, S1, s2, hst.frm f5 (fun _ _ h => h), hf.trans f5⟩
            case measure => simp [intOf]; omega
          by_cases hfM : t = fM
          · subst hfM
            have hc' : wr.cell? ⟨g, k, none⟩ = some (.string ⟨#[77]⟩) := hc
            obtain ⟨Y, hY⟩ : ∃ Y : ByteArray, Y = ⟨(pad m' 1).toArray⟩ := ⟨_, rfl⟩
            obtain ⟨s1, s2⟩ := Step.out Y hY
            have hYs : Y.size ≤ 20000 := by
              have h1 := pad_len _ m' 1 (Nat.le_refl _)
              rw [hY]
              show (pad m' 1).toArray.size ≤ _
              rw [List.size_toArray]
              omega
            have HY := Lib.hid hY
            have S1 := Lib.hid s1
            clear hc Step hY s1
            go_wp2_with fail
            refine (rdigits_any m' 1 (by omega) (by decide) _).mono ?_
            rintro e w5 ⟨rfl, f5⟩
            unfold strV
            rw [← HY.out]
            go_wp2_with fail
            go_roundw
            case rel => exact ⟨k + 1, _, rfl, by go_num, hlt, S1, s2, hst.frm f5 (fun _ _ h => h), hf.trans f5⟩
            case measure => simp [intOf]; omega
          by_cases hfDD : t = fDD
          · subst hfDD
            have hc' : wr.cell? ⟨g, k, none⟩ = some (.string ⟨#[68, 68]⟩) := hc
            obtain ⟨Y, hY⟩ : ∃ Y : ByteArray, Y = ⟨(pad d' 2).toArray⟩ := ⟨_, rfl⟩
            obtain ⟨s1, s2⟩ := Step.out Y hY
            have hYs : Y.size ≤ 20000 := by
              have h1 := pad_len _ d' 2 (Nat.le_refl _)
              rw [hY]
              show (pad d' 2).toArray.size ≤ _
              rw [List.size_toArray]
              omega
            have HY := Lib.hid hY
            have S1 := Lib.hid s1
            clear hc Step hY s1
            go_wp2_with fail
            refine (rdigits_any d' 2 (by omega) (by decide) _).mono ?_
            rintro e w5 ⟨rfl, f5⟩
            unfold strV
            rw [← HY.out]
            go_wp2_with fail
            go_roundw
            case rel => exact ⟨k + 1, _, rfl, by go_num, hlt, S1, s2, hst.frm f5 (fun _ _ h => h), hf.trans f5⟩
            case measure => simp [intOf]; omega
          by_cases hfD : t = fD
          · subst hfD
            have hc' : wr.cell? ⟨g, k, none⟩ = some (.string ⟨#[68]⟩) := hc
            obtain ⟨Y, hY⟩ : ∃ Y : ByteArray, Y = ⟨(pad d' 1).toArray⟩ := ⟨_, rfl⟩
            obtain ⟨s1, s2⟩ := Step.out Y hY
            have hYs : Y.size ≤ 20000 := by
              have h1 := pad_len _ d' 1 (Nat.le_refl _)
              rw [hY]
              show (pad d' 1).toArray.size ≤ _
              rw [List.size_toArray]
              omega
            have HY := Lib.hid hY
            have S1 := Lib.hid s1
            clear hc Step hY s1
            go_wp2_with fail
            refine (rdigits_any d' 1 (by omega) (by decide) _).mono ?_
            rintro e w5 ⟨rfl, f5⟩
            unfold strV
            rw [← HY.out]
            go_wp2_with fail
            go_roundw
            case rel => exact ⟨k + 1, _, rfl, by go_num, hlt, S1, s2, hst.frm f5 (fun _ _ h => h), hf.trans f5⟩
            case measure => simp [intOf]; omega
          have hgen : fmtP y' m' d' t = t := by
            unfold fmtP
            rw [if_neg hfY, if_neg hfMM, if_neg hfM, if_neg hfDD, if_neg hfD]
          unfold strV at hc
          obtain ⟨Y, hY⟩ : ∃ Y : ByteArray, Y = ⟨t.toArray⟩ := ⟨_, rfl⟩
          rw [← hY] at hc
          have t0 := ne_lit hY [89, 89, 89, 89] hfY
          have t1 := ne_lit hY [77, 77] hfMM
          have t2 := ne_lit hY [77] hfM
          have t3 := ne_lit hY [68, 68] hfDD
          have t4 := ne_lit hY [68] hfD
          obtain ⟨s1, s2⟩ := Step.out Y (by rw [hgen]; exact hY)
          have hYs : Y.size ≤ 400160 := by
            rw [ByteArray.size_append] at s2
            omega
          have S1 := Lib.hid s1
          clear hgen hY s1 Step hfY hfMM hfM hfDD hfD
          go_wp2_with fail
          go_roundw
          case rel => exact ⟨k + 1, _, rfl, by go_num, hlt, S1, s2, hst, hf⟩
          case measure => simp [intOf]; omega
        · obtain rfl : k = ps.length := by omega
          have hfin := hX.out
          rw [List.take_length] at hfin
          have Hfin := Lib.hid hfin
          clear hfin hX hlt hst hform
          go_wp2_with fail
          go_ret2
          exact ⟨.inr ⟨Hr.out, y', m', d', Hciv.out, by rw [Hres.out]; unfold strV; rw [Hfin.out]; rfl⟩, hf⟩
end Go.Proofs.YtmpfgdpicbpedaaDoor
