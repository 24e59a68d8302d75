/-
  A disk and its reference, side by side in the heap. Conditions: none.
-/
import Derived.Test.YtehdjajeonemoaaHelp
namespace Go.Proofs.Ytehdjajeonemoaa
open Go.RowKit

def dptr (d : Nat) : Value := .pointer (some ⟨d, 0, none⟩)

structure DeskR (w : World) (x d m : Nat) (c s p q : Value) (lf : Int) (D E : Dk) : Prop where
  obj : w.heap[x]? = some (.cells #[.pointer (some ⟨d, 0, none⟩), .pointer (some ⟨m, 0, none⟩)] 30 (0, 0))
  dk : DiskR w d c s p D
  rf : RefR w m q lf E
  dx : ¬ DkF d c s p x
  rx : ¬ RfF m q x
  dr : ∀ k, DkF d c s p k → ¬ RfF m q k

def DsF (x d m : Nat) (c s p q : Value) : Nat → Prop := fun k => k = x ∨ DkF d c s p k ∨ RfF m q k

theorem cells2 {w : World} {x : Nat} {a b : Value} {t : TypeId} (h : w.heap[x]? = some (.cells #[a, b] t (0, 0))) :
    w.cell? ⟨x, 0, none⟩ = some a ∧ w.cell? ⟨x, 1, none⟩ = some b ∧ w.frozen? ⟨x, 0, none⟩ = false ∧ w.frozen? ⟨x, 1, none⟩ = false := by
  refine ⟨?_, ?_, ?_, ?_⟩ <;> first | (rw [cell_of_row w x _ _ t _ h]; rfl) | exact frozen_of_row w x _ _ t h

theorem DeskR.lt {w : World} {x d m : Nat} {c s p q : Value} {lf : Int} {D E : Dk} (h : DeskR w x d m c s p q lf D E) : x < w.heap.size := (Array.getElem?_eq_some_iff.1 h.obj).1
theorem DeskR.Flt {w : World} {x d m : Nat} {c s p q : Value} {lf : Int} {D E : Dk} (h : DeskR w x d m c s p q lf D E) {k : Nat} (hk : DsF x d m c s p q k) : k < w.heap.size := by
  rcases hk with rfl | hk | hk
  · exact h.lt
  · exact h.dk.Flt hk
  · exact h.rf.Flt hk
theorem DeskR.frm {w w' : World} {x d m : Nat} {c s p q : Value} {lf : Int} {D E : Dk} {F : Nat → Prop} (h : DeskR w x d m c s p q lf D E) (hf : Frm F w w') (hF : ∀ k, DsF x d m c s p q k → ¬ F k) : DeskR w' x d m c s p q lf D E :=
  { h with
    obj := hf.heap h.obj (hF x (.inl rfl))
    dk := h.dk.frm hf fun k hk => hF k (.inr (.inl hk))
    rf := h.rf.frm hf fun k hk => hF k (.inr (.inr hk)) }
theorem DeskR.still {w w' : World} {x d m : Nat} {c s p q : Value} {lf : Int} {D E : Dk} (h : DeskR w x d m c s p q lf D E) (hf : Frm (fun _ => False) w w') : DeskR w' x d m c s p q lf D E := h.frm hf fun _ _ h => h

/-- The disk has turned. -/
theorem DeskR.disk {w w1 : World} {x d m : Nat} {c s p q c' s' p' : Value} {lf : Int} {D E D' : Dk} (h : DeskR w x d m c s p q lf D E) (hd : DiskR w1 d c' s' p' D') (hf : Frm (DkF d c s p) w w1) (hs : Sub w (DkF d c s p) (DkF d c' s' p')) :
    DeskR w1 x d m c' s' p' q lf D' E ∧ Frm (DsF x d m c s p q) w w1 ∧ Sub w (DsF x d m c s p q) (DsF x d m c' s' p' q) := by
  refine ⟨{ obj := hf.heap h.obj h.dx, dk := hd, rf := h.rf.frm hf (fun k hk e => h.dr k e hk), dx := ?_, rx := h.rx, dr := ?_ }, hf.mono fun k hk => .inr (.inl hk), ?_⟩
  · intro hx
    rcases hs x hx with e | e
    · exact h.dx e
    · have := h.lt; omega
  · intro k hk hr
    rcases hs k hk with e | e
    · exact h.dr k e hr
    · have := h.rf.Flt hr; omega
  · rintro k (hk | hk | hk)
    · exact .inl (.inl hk)
    · exact (hs k hk).elim (fun e => .inl (.inr (.inl e))) .inr
    · exact .inl (.inr (.inr hk))

/-- The reference has turned. -/
theorem DeskR.ref {w w1 : World} {x d m : Nat} {c s p q q' : Value} {lf lf' : Int} {D E E' : Dk} (h : DeskR w x d m c s p q lf D E) (hd : RefR w1 m q' lf' E') (hf : Frm (RfF m q) w w1) (hs : Sub w (RfF m q) (RfF m q')) :
    DeskR w1 x d m c s p q' lf' D E' ∧ Frm (DsF x d m c s p q) w w1 ∧ Sub w (DsF x d m c s p q) (DsF x d m c s p q') := by
  refine ⟨{ obj := hf.heap h.obj h.rx, dk := h.dk.frm hf (fun k hk e => h.dr k hk e), rf := hd, dx := h.dx, rx := ?_, dr := ?_ }, hf.mono fun k hk => .inr (.inr hk), ?_⟩
  · intro hx
    rcases hs x hx with e | e
    · exact h.rx e
    · have := h.lt; omega
  · intro k hk hr
    rcases hs k hr with e | e
    · exact h.dr k hk e
    · have := h.dk.Flt hk; omega
  · rintro k (hk | hk | hk)
    · exact .inl (.inl hk)
    · exact .inl (.inr (.inl hk))
    · exact (hs k hk).elim (fun e => .inl (.inr (.inr e))) .inr

/-- Another disk takes the place. -/
theorem DeskR.disk_new {w w1 : World} {x d m d' : Nat} {c s p q c' s' p' : Value} {lf : Int} {D E D' : Dk} (h : DeskR w x d m c s p q lf D E) (hd : DiskR w1 d' c' s' p' D') (hf : Frm (fun _ => False) w w1) (hs : ∀ k, DkF d' c' s' p' k → w.heap.size ≤ k) :
    DeskR (w1.setCell ⟨x, 0, none⟩ (.pointer (some ⟨d', 0, none⟩))) x d' m c' s' p' q lf D' E ∧ Frm (DsF x d m c s p q) w (w1.setCell ⟨x, 0, none⟩ (.pointer (some ⟨d', 0, none⟩))) ∧ Sub w (DsF x d m c s p q) (DsF x d' m c' s' p' q) := by
  have hx : ¬ DkF d' c' s' p' x := fun e => by have := hs x e; have := h.lt; omega
  have h1 : Frm (fun k => k = x) w1 (w1.setCell ⟨x, 0, none⟩ (.pointer (some ⟨d', 0, none⟩))) := (Frm.refl (fun k => k = x) _).setCell (.inl rfl) _
  refine ⟨{ obj := heap_set (hf.heap h.obj (fun h => h)) _, dk := hd.frm h1 (fun k hk e => by subst e; exact hx hk), rf := (h.rf.frm hf (fun _ _ h => h)).frm h1 (fun k hk e => by subst e; exact h.rx hk), dx := hx, rx := h.rx, dr := ?_ }, (hf.mono fun _ h => h.elim).setCell (.inl (.inl rfl)) _, ?_⟩
  · intro k hk hr
    have := hs k hk
    have := h.rf.Flt hr
    omega
  · rintro k (hk | hk | hk)
    · exact .inl (.inl hk)
    · exact .inr (hs k hk)
    · exact .inl (.inr (.inr hk))

theorem DeskR.ref_new {w w1 : World} {x d m m' : Nat} {c s p q q' : Value} {lf lf' : Int} {D E E' : Dk} (h : DeskR w x d m c s p q lf D E) (hd : RefR w1 m' q' lf' E') (hf : Frm (fun _ => False) w w1) (hs : ∀ k, RfF m' q' k → w.heap.size ≤ k) :
    DeskR (w1.setCell ⟨x, 1, none⟩ (.pointer (some ⟨m', 0, none⟩))) x d m' c s p q' lf' D E' ∧ Frm (DsF x d m c s p q) w (w1.setCell ⟨x, 1, none⟩ (.pointer (some ⟨m', 0, none⟩))) ∧ Sub w (DsF x d m c s p q) (DsF x d m' c s p q') := by
  have hx : ¬ RfF m' q' x := fun e => by have := hs x e; have := h.lt; omega
  have h1 : Frm (fun k => k = x) w1 (w1.setCell ⟨x, 1, none⟩ (.pointer (some ⟨m', 0, none⟩))) := (Frm.refl (fun k => k = x) _).setCell (.inl rfl) _
  refine ⟨{ obj := heap_set (hf.heap h.obj (fun h => h)) _, rf := hd.frm h1 (fun k hk e => by subst e; exact hx hk), dk := (h.dk.frm hf (fun _ _ h => h)).frm h1 (fun k hk e => by subst e; exact h.dx hk), dx := h.dx, rx := hx, dr := ?_ }, (hf.mono fun _ h => h.elim).setCell (.inl (.inl rfl)) _, ?_⟩
  · intro k hk hr
    have := hs k hr
    have := h.dk.Flt hk
    omega
  · rintro k (hk | hk | hk)
    · exact .inl (.inl hk)
    · exact .inl (.inr (.inl hk))
    · exact .inr (hs k hk)

/-- How far the numbers of a disk go. -/
structure Dk.Fit (D : Dk) (n : Nat) : Prop where
  calls : D.calls ≤ n
  pend : D.pend.length ≤ n
  left : D.left ≤ n
theorem Dk.Fit.mono {D : Dk} {n k : Nat} (h : D.Fit n) (hk : n ≤ k) : D.Fit k := ⟨Nat.le_trans h.calls hk, Nat.le_trans h.pend hk, Nat.le_trans h.left hk⟩
theorem Dk.Fit.count {D : Dk} {n : Nat} (h : D.Fit n) : D.count.Fit (n + 1) := ⟨by have := h.calls; show D.calls + 1 ≤ _; omega, by have := h.pend; show D.pend.length ≤ _; omega, by have := h.left; show (if D.limited then D.left - 1 else D.left) ≤ _; split <;> omega⟩
theorem Dk.Fit.write {D : Dk} {n : Nat} (h : D.Fit n) (off : Int) (s : List UInt8) : (D.write off s).2.Fit (n + s.length + 1) := by
  unfold Dk.write
  split
  · exact h.mono (by omega)
  · split
    · exact h.mono (by omega)
    · have hc := h.count
      refine ⟨by have := hc.calls; simp only; omega, ?_, by have := hc.left; simp only; omega⟩
      have := cut_len s.length off.toNat s
      have := h.pend
      simp
      omega
theorem Dk.Fit.sync {D : Dk} {n : Nat} (h : D.Fit n) : D.sync.2.Fit (n + 1) := by
  unfold Dk.sync
  split
  · exact h.mono (by omega)
  · have hc := h.count
    exact ⟨hc.calls, by simp, hc.left⟩
theorem Dk.Fit.fail {D : Dk} {n : Nat} (h : D.Fit n) (k : Int) (hk : k ≤ n) : (D.fail k).Fit n := ⟨h.calls, h.pend, by show k.toNat ≤ n; omega⟩
theorem Dk.Fit.crash {D : Dk} {n : Nat} (q : List Int) : (D.crash q).Fit n := ⟨Nat.zero_le _, Nat.zero_le _, Nat.zero_le _⟩

/-! One contract a method of the disk. -/
theorem write_any (d : Nat) (c s' p : Value) (D : Dk) (n : Nat) (off : Int) (s : ByteArray) (w : World) (hR : DiskR w d c s' p D) (hok : D.Ok) (hfit : D.Fit n) (hn : n + s.size ≤ 1099511627776) (ho : -9223372036854775808 ≤ off) :
    Calls Try.prog 33 #[.pointer (some ⟨d, 0, none⟩), .int .i64 off, .string s] w fun e w' => e = .returned (.int .i64 (D.write off s.data.toList).1) ∧ ∃ c2 p2, DiskR w' d c2 s' p2 (D.write off s.data.toList).2 ∧ Frm (DkF d c s' p) w w' ∧ Sub w (DkF d c s' p) (DkF d c2 s' p2) := by
  have hsl := size_toList s
  by_cases h1 : off < 0 ∨ off > 16777216 - (s.size : Int)
  · have e : D.write off s.data.toList = (1, D) := by unfold Dk.write; rw [hsl, if_pos h1]
    rw [e]
    refine (write_bad d off s w h1 (by omega) ho).mono ?_
    rintro e w' ⟨rfl, rfl⟩
    exact ⟨rfl, c, p, hR, Frm.refl _ _, Sub.refl _ _⟩
  · cases hoff : D.off with
    | true =>
      have e : D.write off s.data.toList = (70, D) := by unfold Dk.write; rw [hsl, if_neg h1, hoff]; rfl
      rw [e]
      refine (write_off d c s' p D off s w hR (by omega) (by omega) hoff).mono ?_
      rintro e w' ⟨rfl, rfl⟩
      exact ⟨rfl, c, p, hR, Frm.refl _ _, Sub.refl _ _⟩
    | false =>
      have e : (D.write off s.data.toList).1 = 0 := by unfold Dk.write; rw [hsl, if_neg h1, hoff]; rfl
      rw [e]
      exact write_ok d c s' p D off s w hR hok (by omega) (by omega) hoff (by have := hfit.calls; omega) (by have := hfit.pend; omega) (by have := hfit.left; omega)

theorem sync_any (d : Nat) (c s' p : Value) (D : Dk) (n : Nat) (w : World) (hR : DiskR w d c s' p D) (hok : D.Ok) (hfit : D.Fit n) (hn : n ≤ 1099511627776) :
    Calls Try.prog 34 #[.pointer (some ⟨d, 0, none⟩)] w fun e w' => e = .returned (.int .i64 D.sync.1) ∧ ∃ s2 p2, DiskR w' d c s2 p2 D.sync.2 ∧ Frm (DkF d c s' p) w w' ∧ Sub w (DkF d c s' p) (DkF d c s2 p2) := by
  cases hoff : D.off with
  | true =>
    have e : D.sync = (70, D) := by unfold Dk.sync; rw [hoff]; rfl
    rw [e]
    refine (sync_off d c s' p D w hR hoff).mono ?_
    rintro e w' ⟨rfl, rfl⟩
    exact ⟨rfl, s', p, hR, Frm.refl _ _, Sub.refl _ _⟩
  | false =>
    have e : D.sync.1 = 0 := by unfold Dk.sync; rw [hoff]; rfl
    rw [e]
    exact sync_ok d c s' p D w hR hok hoff (by have := hfit.calls; omega) (by have := hfit.pend; omega) (by have := hfit.left; omega)

theorem rwrite_any (m : Nat) (p : Value) (lf : Int) (D : Dk) (n : Nat) (off : Int) (s : ByteArray) (w : World) (hR : RefR w m p lf D) (hok : D.Ok) (hfit : D.Fit n) (hn : n + s.size ≤ 1099511627776) (hl : -(n : Int) ≤ lf) (hl2 : lf ≤ n) (ho : -9223372036854775808 ≤ off) :
    Calls Try.prog 38 #[.pointer (some ⟨m, 0, none⟩), .int .i64 off, .string s] w fun e w' => e = .returned (.int .i64 (D.write off s.data.toList).1) ∧ ∃ p2 lf2, RefR w' m p2 lf2 (D.write off s.data.toList).2 ∧ lf - 1 ≤ lf2 ∧ lf2 ≤ lf ∧ Frm (RfF m p) w w' ∧ Sub w (RfF m p) (RfF m p2) := by
  have hsl := size_toList s
  by_cases h1 : off < 0 ∨ off > 16777216 - (s.size : Int)
  · have e : D.write off s.data.toList = (1, D) := by unfold Dk.write; rw [hsl, if_pos h1]
    rw [e]
    refine (rwrite_bad _ off s w h1 (by omega) ho).mono ?_
    rintro e w' ⟨rfl, rfl⟩
    exact ⟨rfl, p, lf, hR, by omega, Int.le_refl _, Frm.refl _ _, Sub.refl _ _⟩
  · cases hoff : D.off with
    | true =>
      have e : D.write off s.data.toList = (70, D) := by unfold Dk.write; rw [hsl, if_neg h1, hoff]; rfl
      rw [e]
      refine (rwrite_off m p lf D off s w hR (by omega) (by omega) hoff).mono ?_
      rintro e w' ⟨rfl, rfl⟩
      exact ⟨rfl, p, lf, hR, by omega, Int.le_refl _, Frm.refl _ _, Sub.refl _ _⟩
    | false =>
      have e : (D.write off s.data.toList).1 = 0 := by unfold Dk.write; rw [hsl, if_neg h1, hoff]; rfl
      rw [e]
      refine (rwrite_ok m p lf D off s w hR hok (by omega) (by omega) hoff (by have := hfit.calls; omega) (by have := hfit.pend; omega) (by omega) (by omega)).mono ?_
      rintro e w' ⟨rfl, p2, h⟩
      exact ⟨rfl, p2, lf - 1, h.1, Int.le_refl _, by omega, h.2⟩

theorem rsync_any (m : Nat) (p : Value) (lf : Int) (D : Dk) (n : Nat) (w : World) (hR : RefR w m p lf D) (hfit : D.Fit n) (hn : n ≤ 1099511627776) (hl : -(n : Int) ≤ lf) (hl2 : lf ≤ n) :
    Calls Try.prog 48 #[.pointer (some ⟨m, 0, none⟩)] w fun e w' => e = .returned (.int .i64 D.sync.1) ∧ ∃ p2 lf2, RefR w' m p2 lf2 D.sync.2 ∧ lf - 1 ≤ lf2 ∧ lf2 ≤ lf ∧ Frm (RfF m p) w w' ∧ Sub w (RfF m p) (RfF m p2) := by
  cases hoff : D.off with
  | true =>
    have e : D.sync = (70, D) := by unfold Dk.sync; rw [hoff]; rfl
    rw [e]
    refine (rsync_off m p lf D w hR hoff).mono ?_
    rintro e w' ⟨rfl, rfl⟩
    exact ⟨rfl, p, lf, hR, by omega, Int.le_refl _, Frm.refl _ _, Sub.refl _ _⟩
  | false =>
    have e : D.sync.1 = 0 := by unfold Dk.sync; rw [hoff]; rfl
    rw [e]
    refine (rsync_ok m p lf D w hR hoff (by have := hfit.calls; omega) (by omega) (by omega)).mono ?_
    rintro e w' ⟨rfl, p2, h⟩
    exact ⟨rfl, p2, lf - 1, h.1, Int.le_refl _, by omega, h.2⟩
end Go.Proofs.Ytehdjajeonemoaa
