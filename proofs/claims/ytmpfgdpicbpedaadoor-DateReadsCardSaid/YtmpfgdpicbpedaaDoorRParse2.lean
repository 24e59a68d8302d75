/-
  Parse of the reference: the walk. Conditions: the text is within reach.
-/
import Derived.Test.YtmpfgdpicbpedaaDoorRParse
import Derived.Test.YtmpfgdpicbpedaaDoorTwo
import Derived.Laws.Strings2
namespace Go.Proofs.YtmpfgdpicbpedaaDoor
open Go.RowKit Go.Shelf
attribute [local go_sem] Oper.semAt_some

theorem nb_shape (s : ByteArray) (h0 : 0 < s.size) : ∃ (v : Nat) (b : Bool), nbR s = .tuple #[.int .i64 v, .bool b] ∧ ((s.data.toList.all digB = b) ∧ (b = true → v = val s.data.toList)) := by
  cases h : s.data.toList.all digB
  · exact ⟨0, false, nbR_no h, rfl, fun e => by simp at e⟩
  · exact ⟨_, true, nbR_yes h true (decide_eq_true h0), rfl, fun _ => rfl⟩

set_option maxRecDepth 100000 in
set_option maxHeartbeats 1000000 in
theorem rparse_any (s : ByteArray) (hs : s.size ≤ 9223372036854775807) (w : World) : Calls Tryd.prog 30 #[.string s] w fun e w' => rdO isoL s.data.toList e ∧ w = w' := by
  by_cases h10 : s.size = 10
  · obtain ⟨a0, a1, a2, a3, a4, a5, a6, a7, a8, a9, rfl⟩ : ∃ a0 a1 a2 a3 a4 a5 a6 a7 a8 a9 : UInt8, s = ⟨#[a0, a1, a2, a3, a4, a5, a6, a7, a8, a9]⟩ := by
      obtain ⟨⟨l⟩⟩ := s
      match l, h10 with
      | [a0, a1, a2, a3, a4, a5, a6, a7, a8, a9], _ => exact ⟨a0, a1, a2, a3, a4, a5, a6, a7, a8, a9, rfl⟩
    clear h10 hs
    by_cases h4 : a4 = 45
    · subst h4
      by_cases h7 : a7 = 45
      · subst h7
        have g4 : ∀ h : 4 < (⟨#[a0, a1, a2, a3, 45, a5, a6, 45, a8, a9]⟩ : ByteArray).size, (⟨#[a0, a1, a2, a3, 45, a5, a6, 45, a8, a9]⟩ : ByteArray)[4]'h = 45 := fun _ => rfl
        have g7 : ∀ h : 7 < (⟨#[a0, a1, a2, a3, 45, a5, a6, 45, a8, a9]⟩ : ByteArray).size, (⟨#[a0, a1, a2, a3, 45, a5, a6, 45, a8, a9]⟩ : ByteArray)[7]'h = 45 := fun _ => rfl
        go_enter Tryd.func30, Tryd.ntmps30
        go_wp2_with fail
        obtain ⟨v1, b1, q1, r1⟩ := nb_shape ((⟨#[a0, a1, a2, a3, 45, a5, a6, 45, a8, a9]⟩ : ByteArray).extract 0 4) (by rw [ByteArray.size_extract]; show 0 < min 4 10 - 0; omega)
        obtain ⟨v2, b2, q2, r2⟩ := nb_shape ((⟨#[a0, a1, a2, a3, 45, a5, a6, 45, a8, a9]⟩ : ByteArray).extract 5 7) (by rw [ByteArray.size_extract]; show 0 < min 7 10 - 5; omega)
        obtain ⟨v3, b3, q3, r3⟩ := nb_shape ((⟨#[a0, a1, a2, a3, 45, a5, a6, 45, a8, a9]⟩ : ByteArray).extract 8 10) (by rw [ByteArray.size_extract]; show 0 < min 10 10 - 8; omega)
        have Q1 := Lib.hid q1
        have Q2 := Lib.hid q2
        have Q3 := Lib.hid q3
        have R1 := Lib.hid r1
        have R2 := Lib.hid r2
        have R3 := Lib.hid r3
        clear q1 q2 q3 r1 r2 r3
        refine (rnumber_any _ (by rw [ByteArray.size_extract]; show min 4 10 - 0 ≤ 4; omega) _).mono ?_
        rintro e w1 ⟨rfl, rfl⟩
        rw [Q1.out]
        go_wp2_with fail
        refine (rnumber_any _ (by rw [ByteArray.size_extract]; show min 7 10 - 5 ≤ 4; omega) _).mono ?_
        rintro e w1 ⟨rfl, rfl⟩
        rw [Q2.out]
        go_wp2_with fail
        refine (rnumber_any _ (by rw [ByteArray.size_extract]; show min 10 10 - 8 ≤ 4; omega) _).mono ?_
        rintro e w1 ⟨rfl, rfl⟩
        rw [Q3.out]
        obtain ⟨u, ok, hu, hv⟩ := num_shape v1 v2 v3
        have Hu := Lib.hid hu
        have Hv := Lib.hid hv
        have hiff : ∀ n, IsDay isoL (⟨#[a0, a1, a2, a3, 45, a5, a6, 45, a8, a9]⟩ : ByteArray).data.toList n ↔ b1 = true ∧ b2 = true ∧ b3 = true ∧ Civ n v1 v2 v3 := by
          intro n
          have R1 := R1.out
          have R2 := R2.out
          have R3 := R3.out
          rw [show ((⟨#[a0, a1, a2, a3, 45, a5, a6, 45, a8, a9]⟩ : ByteArray).extract 0 4).data.toList = [a0, a1, a2, a3] from rfl] at R1
          rw [show ((⟨#[a0, a1, a2, a3, 45, a5, a6, 45, a8, a9]⟩ : ByteArray).extract 5 7).data.toList = [a5, a6] from rfl] at R2
          rw [show ((⟨#[a0, a1, a2, a3, 45, a5, a6, 45, a8, a9]⟩ : ByteArray).extract 8 10).data.toList = [a8, a9] from rfl] at R3
          rw [iso_iff]
          constructor
          · rintro ⟨-, -, -, h1, h2, h3, hc⟩
            have t1 : b1 = true := by rw [← R1.1]; exact h1
            have t2 : b2 = true := by rw [← R2.1]; exact h2
            have t3 : b3 = true := by rw [← R3.1]; exact h3
            refine ⟨t1, t2, t3, ?_⟩
            rw [R1.2 t1, R2.2 t2, R3.2 t3]
            exact hc
          · rintro ⟨t1, t2, t3, hc⟩
            rw [R1.2 t1, R2.2 t2, R3.2 t3] at hc
            exact ⟨rfl, rfl, rfl, R1.1.trans t1, R2.1.trans t2, R3.1.trans t3, hc⟩
        have Hiff := Lib.hid hiff
        clear hu hv hiff R1 R2 R3 Q1 Q2 Q3
        go_wp2_with fail
        refine (rnum_any v1 v2 v3 _).mono ?_
        rintro e w1 ⟨rfl, rfl⟩
        rw [Hu.out]
        have hneg : (b1 && b2 && b3 && ok) = false → ∀ n, ¬ IsDay isoL (⟨#[a0, a1, a2, a3, 45, a5, a6, 45, a8, a9]⟩ : ByteArray).data.toList n := by
          intro hb n hn
          obtain ⟨t1, t2, t3, hc⟩ := (Hiff.out n).1 hn
          have := Hv.out
          rw [hc.1] at this
          rw [t1, t2, t3, ← this] at hb
          simp at hb
        have Hneg := Lib.hid hneg
        clear hneg
        cases b1 <;> cases b2 <;> cases b3 <;> cases ok
        all_goals
          go_wp2_with fail
          go_ret2
        all_goals first
          | exact ⟨.inl ⟨Hneg.out rfl, rfl⟩, rfl⟩
          | skip
        have hnum : numR v1 v2 v3 = .tuple #[.int .i64 (num v1 v2 v3), .bool true] := by unfold numR; rw [if_pos Hv.out]
        rw [Hu.out] at hnum
        injection hnum with hnum
        have hu2 : u = num v1 v2 v3 := by simpa using hnum
        exact ⟨.inr ⟨u, (Hiff.out u).2 ⟨by simp, by simp, by simp, Hv.out, hu2.symm⟩, rfl⟩, rfl⟩
      · skip
        have hne : ∀ n, ¬ IsDay isoL (⟨#[a0, a1, a2, a3, 45, a5, a6, a7, a8, a9]⟩ : ByteArray).data.toList n := by
          intro n hn
          have := (iso_iff.1 hn).2.2.1
          exact h7 (by simpa using this)
        have Hne := Lib.hid hne
        have e7 : ((a7.toNat : Int) != 45) = true := by
          rw [bne_iff_ne]
          intro e
          exact h7 (UInt8.toNat_inj.1 (by show a7.toNat = 45; omega))
        have g4 : ∀ h : 4 < (⟨#[a0, a1, a2, a3, 45, a5, a6, a7, a8, a9]⟩ : ByteArray).size, (⟨#[a0, a1, a2, a3, 45, a5, a6, a7, a8, a9]⟩ : ByteArray)[4]'h = 45 := fun _ => rfl
        have g7 : ∀ h : 7 < (⟨#[a0, a1, a2, a3, 45, a5, a6, a7, a8, a9]⟩ : ByteArray).size, (⟨#[a0, a1, a2, a3, 45, a5, a6, a7, a8, a9]⟩ : ByteArray)[7]'h = a7 := fun _ => rfl
        clear hne h7
        go_enter Tryd.func30, Tryd.ntmps30
        go_wp2_with fail
        go_ret2
        exact ⟨.inl ⟨Hne.out, rfl⟩, rfl⟩
    · skip
      have hne : ∀ n, ¬ IsDay isoL (⟨#[a0, a1, a2, a3, a4, a5, a6, a7, a8, a9]⟩ : ByteArray).data.toList n := by
        intro n hn
        have := (iso_iff.1 hn).2.1
        exact h4 (by simpa using this)
      have Hne := Lib.hid hne
      have e4 : ((a4.toNat : Int) != 45) = true := by
        rw [bne_iff_ne]
        intro e
        exact h4 (UInt8.toNat_inj.1 (by show a4.toNat = 45; omega))
      have g4 : ∀ h : 4 < (⟨#[a0, a1, a2, a3, a4, a5, a6, a7, a8, a9]⟩ : ByteArray).size, (⟨#[a0, a1, a2, a3, a4, a5, a6, a7, a8, a9]⟩ : ByteArray)[4]'h = a4 := fun _ => rfl
      have g7 : ∀ h : 7 < (⟨#[a0, a1, a2, a3, a4, a5, a6, a7, a8, a9]⟩ : ByteArray).size, (⟨#[a0, a1, a2, a3, a4, a5, a6, a7, a8, a9]⟩ : ByteArray)[7]'h = a7 := fun _ => rfl
      clear hne h4
      go_enter Tryd.func30, Tryd.ntmps30
      go_wp2_with fail
      go_ret2
      exact ⟨.inl ⟨Hne.out, rfl⟩, rfl⟩
  · have hne : ∀ n, ¬ IsDay isoL s.data.toList n := by
      intro n hn
      have := (iso_iff.1 hn).1
      rw [size_toList] at this
      exact h10 this
    have Hne := Lib.hid hne
    have h1 : ((s.size : Int) != 10) = true := bne_iff_ne.2 (by omega)
    clear hne
    go_enter Tryd.func30, Tryd.ntmps30
    go_wp2_with fail
    go_ret2
    exact ⟨.inl ⟨Hne.out, rfl⟩, rfl⟩
end Go.Proofs.YtmpfgdpicbpedaaDoor
