/-
  same: a disk and its reference agree. Conditions: none beyond a desk in memory.
-/
import Derived.Test.YtehdjajeonemoaaDo2
namespace Go.Proofs.Ytehdjajeonemoaa
open Go.RowKit

set_option maxRecDepth 100000 in
set_option maxHeartbeats 4000000 in
theorem same_raw (x d m : Nat) (c s p q : Value) (lf : Int) (D : Dk) (w : World) (h : DeskR w x d m c s p q lf D D) (hok : D.Ok) :
    Calls Try.prog 27 #[.pointer (some ⟨x, 0, none⟩)] w fun e w' => e = .returned (.bool true) ∧ DeskR w' x d m c s p q lf D D ∧ Frm (fun _ => False) w w' := by
  have h1 := h.still ((Frm.refl (fun _ => False) w).drew)
  have f1 : Frm (fun _ => False) w w.drew := (Frm.refl (fun _ => False) w).drew
  obtain ⟨r, hr⟩ : ∃ r : ByteArray, r = ⟨(D.read 0 33554432).toArray⟩ := ⟨_, rfl⟩
  have hA : ∀ w0, DeskR w0 x d m c s p q lf D D → Calls Try.prog 23 #[.pointer (some ⟨d, 0, none⟩)] w0 fun e w' => e = .returned (.int .i64 D.now.length) ∧ w0 = w' := by
    intro w0 h0
    obtain ⟨ao, cap, rfl, -⟩ := h0.dk.bc.slice
    exact size_any d _ _ _ _ _ _ _ _ w0 h0.dk.obj
  have hB : ∀ w0, DeskR w0 x d m c s p q lf D D → Calls Try.prog 24 #[.pointer (some ⟨m, 0, none⟩)] w0 fun e w' => e = .returned (.int .i64 D.now.length) ∧ w0 = w' := fun w0 h0 => rsize_any m D.now _ _ _ _ _ w0 h0.rf.obj
  have hC : ∀ w0, DeskR w0 x d m c s p q lf D D → Calls Try.prog 25 #[.pointer (some ⟨d, 0, none⟩)] w0 fun e w' => e = .returned (.int .i64 D.calls) ∧ w0 = w' := fun w0 h0 => calls_any d _ _ _ _ _ _ w0 h0.dk.obj
  have hE : ∀ w0, DeskR w0 x d m c s p q lf D D → Calls Try.prog 26 #[.pointer (some ⟨m, 0, none⟩)] w0 fun e w' => e = .returned (.int .i64 D.calls) ∧ w0 = w' := fun w0 h0 => rcalls_any m _ _ _ _ _ _ w0 h0.rf.obj
  have hG : ∀ w0, DeskR w0 x d m c s p q lf D D → Calls Try.prog 35 #[.pointer (some ⟨d, 0, none⟩), .int .i64 0, .int .i64 33554432] w0 fun e w' => e = .returned (.string r) ∧ Frm (fun _ => False) w0 w' := by
    intro w0 h0
    rw [hr]
    refine (read_any d c s p D 0 33554432 w0 h0.dk hok (by omega)).mono ?_
    rintro e w' ⟨rfl, k, rfl⟩
    exact ⟨rfl, (Frm.refl _ _).drewN k⟩
  have hH : ∀ w0, DeskR w0 x d m c s p q lf D D → Calls Try.prog 37 #[.pointer (some ⟨m, 0, none⟩), .int .i64 0, .int .i64 33554432] w0 fun e w' => e = .returned (.string r) ∧ Frm (fun _ => False) w0 w' := by
    intro w0 h0
    rw [hr]
    refine (rread_any m D.now _ _ _ _ _ 0 33554432 w0 h0.rf.obj (by omega) hok.len).mono ?_
    rintro e w' ⟨rfl, k, rfl⟩
    exact ⟨rfl, (Frm.refl _ _).drewN k⟩
  have HA := Lib.hid hA
  have HB := Lib.hid hB
  have HC := Lib.hid hC
  have HE := Lib.hid hE
  have HG := Lib.hid hG
  have HH := Lib.hid hH
  clear hA hB hC hE hG hH hr h
  go_enter Try.func27, Try.ntmps27
  go_wp2_with fail
  go_region_held3 (fun w' => w'.cell? ⟨x, 0, none⟩ = some (.pointer (some ⟨d, 0, none⟩)) ∧ w'.cell? ⟨x, 1, none⟩ = some (.pointer (some ⟨m, 0, none⟩)))
    (exact ⟨(cells2 (DeskR.obj (by assumption))).1, (cells2 (DeskR.obj (by assumption))).2.1⟩)
    (first
      | (go_at_call 23; refine (HA.out _ (by assumption)).mono ?_; rintro e w1 ⟨rfl, rfl⟩)
      | (go_at_call 24; refine (HB.out _ (by assumption)).mono ?_; rintro e w1 ⟨rfl, rfl⟩)
      | (go_at_call 25; refine (HC.out _ (by assumption)).mono ?_; rintro e w1 ⟨rfl, rfl⟩)
      | (go_at_call 26; refine (HE.out _ (by assumption)).mono ?_; rintro e w1 ⟨rfl, rfl⟩)
      | (go_at_call 35; refine (HG.out _ (by assumption)).mono ?_; rintro e w1 ⟨rfl, hf⟩; have h2 := DeskR.still (by assumption) hf; have f2 := Frm.trans (by assumption) hf)
      | (go_at_call 37; refine (HH.out _ (by assumption)).mono ?_; rintro e w1 ⟨rfl, hf⟩; have h3 := DeskR.still (by assumption) hf; have f3 := Frm.trans (by assumption) hf))
  go_wp2
  go_ret
  exact ⟨rfl, by assumption, by assumption⟩

theorem same_any (w : World) (x n : Nat) (D : Dk) (w1 : World) (h : Desk w x n D w1) :
    Calls Try.prog 27 #[.pointer (some ⟨x, 0, none⟩)] w1 fun e w' => e = .returned (.bool true) ∧ Desk w x n D w' := by
  obtain ⟨d, m, c, s, p, q, lf, hd, r⟩ := h.raw
  refine (same_raw x d m c s p q lf D w1 hd h.ok).mono ?_
  rintro e w2 ⟨rfl, _, hf⟩
  exact ⟨rfl, h.still hf⟩
end Go.Proofs.Ytehdjajeonemoaa
