/-
  Text of the reference, and Parse: what their code does. Conditions: the package variables read as the text lays them; the text within reach.
-/
import Derived.Test.YtmpfgdpicbpedaaDoorSan
namespace Go.Proofs.YtmpfgdpicbpedaaDoor
open Go.RowKit Go.Shelf
attribute [local go_sem] Oper.semAt_some

set_option maxRecDepth 100000 in
set_option maxHeartbeats 1000000 in
theorem rtext_any (n : Int) (w : World) : Calls Tryd.prog 28 #[.int .i64 n] w fun e w' => txtO n e ∧ Frm (fun _ => False) w w' := by
  go_enter Tryd.func28, Tryd.ntmps28
  go_wp2_with fail
  refine (rcivil_any n w).mono ?_
  rintro e w' ⟨hc, rfl⟩
  rcases hc with ⟨hb, rfl⟩ | ⟨y, m, d, hciv, rfl⟩
  · have Hb := Lib.hid hb
    clear hb
    go_wp2_with fail
    go_ret
    exact ⟨.inl ⟨Hb.out, rfl⟩, Frm.refl _ _⟩
  · obtain ⟨y', m', d', rfl, rfl, rfl, hy, hm, hd⟩ := hciv.nat
    have Hciv := Lib.hid hciv
    clear hciv
    go_wp2_with fail
    refine (rdigits_any y' 4 (by omega) (by decide) _).mono ?_
    rintro e w1 ⟨rfl, f1⟩
    unfold strV
    obtain ⟨X, hX⟩ : ∃ X : ByteArray, X = ⟨(pad y' 4).toArray⟩ := ⟨_, rfl⟩
    rw [← hX]
    have sX : X.size ≤ 20000 := by
      have h1 := pad_len _ y' 4 (Nat.le_refl _)
      rw [hX]
      show (pad y' 4).toArray.size ≤ _
      rw [List.size_toArray]
      omega
    have HX := Lib.hid hX
    clear hX
    go_wp2_with fail
    refine (rdigits_any m' 2 (by omega) (by decide) _).mono ?_
    rintro e w2 ⟨rfl, f2⟩
    unfold strV
    obtain ⟨Y, hY⟩ : ∃ Y : ByteArray, Y = ⟨(pad m' 2).toArray⟩ := ⟨_, rfl⟩
    rw [← hY]
    have sY : Y.size ≤ 20000 := by
      have h1 := pad_len _ m' 2 (Nat.le_refl _)
      rw [hY]
      show (pad m' 2).toArray.size ≤ _
      rw [List.size_toArray]
      omega
    have HY := Lib.hid hY
    clear hY
    go_wp2_with fail
    refine (rdigits_any d' 2 (by omega) (by decide) _).mono ?_
    rintro e w3 ⟨rfl, f3⟩
    unfold strV
    obtain ⟨Z, hZ⟩ : ∃ Z : ByteArray, Z = ⟨(pad d' 2).toArray⟩ := ⟨_, rfl⟩
    rw [← hZ]
    have sZ : Z.size ≤ 20000 := by
      have h1 := pad_len _ d' 2 (Nat.le_refl _)
      rw [hZ]
      show (pad d' 2).toArray.size ≤ _
      rw [List.size_toArray]
      omega
    have HZ := Lib.hid hZ
    clear hZ
    go_wp2_with fail
    go_ret
    refine ⟨.inr ⟨y', m', d', Hciv.out, ?_⟩, (f1.trans f2).trans f3⟩
    rw [isoP, HX.out, HY.out, HZ.out]
    unfold strV
    refine congrArg (fun b => Ending.returned (.string b)) (WideShapes.bytes_inj ?_)
    simp

set_option maxHeartbeats 1000000 in
theorem dparse_any (s : ByteArray) (hs : s.size ≤ 9223372036854775807) (w : World) (hT : Tabs w) : Calls Tryd.prog 29 #[.string s] w fun e w' => rdO isoL s.data.toList e ∧ Frm (fun _ => False) w w' := by
  go_enter Tryd.func29, Tryd.ntmps29
  go_wp2_with fail
  refine (read_any ⟨#[89, 89, 89, 89, 45, 77, 77, 45, 68, 68]⟩ s (by decide) hs w hT).mono ?_
  rintro e w1 ⟨hr, f1⟩
  rcases hr with ⟨hno, rfl⟩ | ⟨n, hn, rfl⟩
  · have Hno := Lib.hid hno
    clear hno
    go_wp2_with fail
    go_ret2
    exact ⟨.inl ⟨Hno.out, rfl⟩, f1⟩
  · have Hn := Lib.hid hn
    clear hn
    go_wp2_with fail
    go_ret2
    exact ⟨.inr ⟨n, Hn.out, rfl⟩, f1⟩
end Go.Proofs.YtmpfgdpicbpedaaDoor
