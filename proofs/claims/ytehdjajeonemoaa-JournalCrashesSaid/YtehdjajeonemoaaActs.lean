/-
  A desk among the things in memory: an act, a comparison. Conditions: none beyond a desk in memory.
-/
import Derived.Test.YtehdjajeonemoaaSan
namespace Go.Proofs.Ytehdjajeonemoaa
open Go.RowKit

/-- An act. -/
structure ActV where
  kind : Int
  off : Int
  n : Int
  text : ByteArray
def ActV.cells (a : ActV) : Array Value := #[.int .i64 a.kind, .int .i64 a.off, .int .i64 a.n, .string a.text]
structure ActV.Ok (a : ActV) : Prop where
  k1 : -9223372036854775808 ≤ a.kind
  k2 : a.kind ≤ 9223372036854775807
  o1 : -9223372036854775808 ≤ a.off
  o2 : a.off ≤ 9223372036854775807
  n1 : -9223372036854775808 ≤ a.n
  n2 : a.n ≤ 9223372036854775807
  t : a.text.size ≤ 9223372036854775807
def Dk.actV (D : Dk) (a : ActV) : Dk := D.act a.kind a.off a.n a.text.data.toList

/-- The three things of a desk. -/
def deskL (x d m : Nat) (D : Dk) (n : Nat) : List Thing := [diskT d D n, refT m D n, cellT x #[.pointer (some ⟨d, 0, none⟩), .pointer (some ⟨m, 0, none⟩)] 30]

theorem Own.close {w0 w : World} {x d m n : Nat} {D : Dk} {L : List Thing} (h : Own w0 (deskL x d m D n ++ L) w) : Own w0 (deskT x d m D n :: L) w := by
  refine h.join 3 (by simp [deskL]) fun F hF hd => ?_
  obtain ⟨c, s, p, hdk, hok, hfit, e0⟩ := hF 0 (diskT d D n) rfl (by omega)
  obtain ⟨q, lf, hrf, -, -, l1, l2, e1⟩ := hF 1 (refT m D n) rfl (by omega)
  obtain ⟨hx, e2⟩ := hF 2 (cellT x _ 30) rfl (by omega)
  refine ⟨c, s, p, q, lf, ⟨hx, hdk, hrf, fun k => ?_, fun k => ?_, fun k k1 k2 => ?_⟩, hok, hfit, l1, l2, ?_⟩
  · have := hd 0 2 x (by omega) (by omega) (by rw [e0]; exact k) (by rw [e2])
    omega
  · have := hd 1 2 x (by omega) (by omega) (by rw [e1]; exact k) (by rw [e2])
    omega
  · have := hd 0 1 k (by omega) (by omega) (by rw [e0]; exact k1) (by rw [e1]; exact k2)
    omega
  · funext k
    apply propext
    constructor
    · rintro ⟨i, hi, hk⟩
      match i, hi with
      | 0, _ => rw [e0] at hk; exact .inr (.inl hk)
      | 1, _ => rw [e1] at hk; exact .inr (.inr hk)
      | 2, _ => rw [e2] at hk; exact .inl hk
    · rintro (hk | hk | hk)
      · exact ⟨2, by omega, by rw [e2]; exact hk⟩
      · exact ⟨0, by omega, by rw [e0]; exact hk⟩
      · exact ⟨1, by omega, by rw [e1]; exact hk⟩

theorem Own.open {w0 w : World} {x d m n : Nat} {D : Dk} {L : List Thing} (h : Own w0 (deskT x d m D n :: L) w) : Own w0 (deskL x d m D n ++ L) w := by
  refine h.part fun F hF => ?_
  obtain ⟨c, s, p, q, lf, hD, hok, hfit, l1, l2, rfl⟩ := hF
  refine ⟨fun i => match i with | 0 => DkF d c s p | 1 => RfF m q | _ => fun k => k = x, fun i U hi => ?_, fun i k hi hk => ?_, fun i j k hi hj h1 h2 => ?_⟩
  · match i with
    | 0 =>
      cases hi
      exact ⟨c, s, p, hD.dk, hok, hfit, rfl⟩
    | 1 =>
      cases hi
      exact ⟨q, lf, hD.rf, hok, hfit, l1, l2, rfl⟩
    | 2 =>
      cases hi
      exact ⟨hD.obj, rfl⟩
    | i + 3 => simp [deskL] at hi
  · match i, hi with
    | 0, _ => exact .inr (.inl hk)
    | 1, _ => exact .inr (.inr hk)
    | 2, _ => exact .inl hk
  · have hi' : i < 3 := hi
    have hj' : j < 3 := hj
    match i, j, hi', hj' with
    | 0, 0, _, _ => rfl
    | 1, 1, _, _ => rfl
    | 2, 2, _, _ => rfl
    | 0, 1, _, _ => exact (hD.dr k h1 h2).elim
    | 1, 0, _, _ => exact (hD.dr k h2 h1).elim
    | 0, 2, _, _ => exact (hD.dx (show DkF d c s p x from (show k = x from h2) ▸ h1)).elim
    | 2, 0, _, _ => exact (hD.dx (show DkF d c s p x from (show k = x from h1) ▸ h2)).elim
    | 1, 2, _, _ => exact (hD.rx (show RfF m q x from (show k = x from h2) ▸ h1)).elim
    | 2, 1, _, _ => exact (hD.rx (show RfF m q x from (show k = x from h1) ▸ h2)).elim

/-- The first of the things is put behind the others. -/
theorem Own.rot {w0 w : World} {T : Thing} {L : List Thing} (h : Own w0 (T :: L) w) : Own w0 (L ++ [T]) w := by
  obtain ⟨F, h1, h2, h3⟩ := h.fp
  have key : ∀ j, j < (L ++ [T]).length → (if j < L.length then j + 1 else 0) < (T :: L).length := by
    intro j hj
    simp only [List.length_cons]
    split <;> omega
  refine ⟨h.frm, fun j => F (if j < L.length then j + 1 else 0), fun j U hj => ?_, fun j k hj hk => h2 _ k (key j hj) hk, fun a b k ha hb hka hkb => ?_⟩
  · by_cases e : j < L.length
    · rw [List.getElem?_append_left e] at hj
      simp only [if_pos e]
      exact h1 (j + 1) U hj
    · rw [List.getElem?_append_right (by omega)] at hj
      simp only [if_neg e]
      have : j - L.length = 0 := by
        have := (List.getElem?_eq_some_iff.1 hj).1
        simpa using this
      rw [this] at hj
      exact h1 0 U hj
  · have := h3 _ _ k (key a ha) (key b hb) hka hkb
    simp at ha hb
    by_cases ea : a < L.length <;> by_cases eb : b < L.length
    · rw [if_pos ea, if_pos eb] at this; omega
    · rw [if_pos ea, if_neg eb] at this; omega
    · rw [if_neg ea, if_pos eb] at this; omega
    · omega

section calls
variable {w0 w : World} {L : List Thing}
theorem own_do {x d m n : Nat} {D : Dk} (h : Own w0 (deskL x d m D n ++ L) w) (a : ActV) (ha : a.Ok) (hn : n + 201 ≤ 1099511627776) :
    Calls Try.prog 22 #[.pointer (some ⟨x, 0, none⟩), .agg a.cells] w fun e w' => e = .returned (.bool true) ∧ ∃ d' m', Own w0 (deskL x d' m' (D.actV a) (n + 201) ++ L) w' := by
  obtain ⟨F, ⟨c, s, p, q, lf, hd, hok, hfit, l1, l2, rfl⟩, _, ht⟩ := h.close.turn (i := 0) rfl
  obtain ⟨kind, off, nn, t⟩ := a
  obtain ⟨hk1, hk2, ho1, ho2, hn1, hn2, htt⟩ := ha
  have fromSt : ∀ {d' m' A lo hi : _} {act : Array Value} {D' : Dk} {w2 : World}, St w (DsF x d m c s p q) x d' m' A act lo hi D' D' w2 → D'.Ok → D'.Fit (n + 201) → -((n + 201 : Nat) : Int) ≤ lo → hi ≤ (n + 201 : Nat) → ∃ d' m', Own w0 (deskL x d' m' D' (n + 201) ++ L) w2 := by
    intro d' m' A lo hi act D' w2 st ho hf g1 g2
    obtain ⟨c', s', p', q', lf', hd', l3, l4, hS, -⟩ := st.desk
    exact ⟨d', m', Own.open (ht (deskT x d' m' D' (n + 201)) _ w2 ⟨c', s', p', q', lf', hd', ho, hf, by omega, by omega, rfl⟩ st.frm hS)⟩
  show Calls _ _ _ _ fun e w' => _ ∧ ∃ d' m', Own w0 (deskL x d' m' (D.act kind off nn t.data.toList) (n + 201) ++ L) w'
  unfold Dk.act
  by_cases h4 : kind % 8 = 4
  · rw [if_pos h4]
    refine (do_sync x d m c s p q lf D n kind off nn t w hd hok hfit (by omega) l1 l2 h4 hk1 hk2).mono ?_
    rintro e w2 ⟨rfl, s2, p2, q2, lf2, hd2, l3, l4, hf, hs⟩
    exact ⟨rfl, d, m, Own.open (ht (deskT x d m D.sync.2 (n + 201)) _ w2 ⟨c, s2, p2, q2, lf2, hd2, Dk.ok_sync hok, hfit.sync.mono (by omega), by omega, by omega, rfl⟩ hf hs)⟩
  · rw [if_neg h4]
    by_cases h5 : kind % 8 = 5
    · rw [if_pos h5]
      refine (do_read x d m c s p q lf D kind off nn t w hd hok h5 hk1 hk2 ho1 ho2 hn2).mono ?_
      rintro e w2 ⟨rfl, st⟩
      exact ⟨rfl, fromSt st hok (hfit.mono (by omega)) (by omega) (by omega)⟩
    · rw [if_neg h5]
      by_cases h6 : kind % 8 = 6
      · rw [if_pos h6]
        refine (do_fail x d m c s p q lf D kind off nn t w hd h6 hk1 hk2 hn1 hn2).mono ?_
        rintro e w2 ⟨rfl, hd2, hf⟩
        have b0 : 0 ≤ nn % 9 := Int.emod_nonneg _ (by omega)
        have b1 : nn % 9 < 9 := Int.emod_lt_of_pos _ (by omega)
        exact ⟨rfl, d, m, Own.open (ht (deskT x d m (D.fail (nn % 9 - 1)) (n + 201)) _ w2 ⟨c, s, p, q, _, hd2, Dk.ok_fail hok _, (hfit.mono (show n ≤ n + 201 by omega)).fail _ (by omega), by omega, by omega, rfl⟩ hf (Sub.refl _ _))⟩
      · rw [if_neg h6]
        by_cases h7 : kind % 8 = 7
        · rw [if_pos h7]
          refine (do_crash x d m c s p q lf (-(n : Int)) n D n kind off nn t w hd hok hfit (by omega) l1 l2 (by omega) (by omega) h7 hk1 hk2 hn1 hn2).mono ?_
          rintro e w2 ⟨rfl, d', m', st⟩
          exact ⟨rfl, fromSt st (Dk.ok_crash hok _) ((Dk.Fit.crash (D := D) (survQ nn)).mono (Nat.zero_le _)) (by omega) (by omega)⟩
        · rw [if_neg h7]
          refine (do_write x d m c s p q lf D n kind off nn t w hd hok hfit (by omega) l1 l2 h4 h5 h6 h7 hk1 hk2 ho1 ho2 hn1 hn2 htt).mono ?_
          rintro e w2 ⟨rfl, st⟩
          have hL := longL_length nn t.data.toList
          exact ⟨rfl, fromSt st (Dk.ok_write hok _ _) ((hfit.write _ _).mono (by omega)) (by omega) (by omega)⟩

theorem own_same (h : Own w0 L w) {x d m n : Nat} {D : Dk} (i j k : Nat) (hi : L[i]? = some (diskT d D n)) (hj : L[j]? = some (refT m D n)) (hk : L[k]? = some (cellT x #[.pointer (some ⟨d, 0, none⟩), .pointer (some ⟨m, 0, none⟩)] 30)) (hne : i ≠ j ∧ i ≠ k ∧ j ≠ k) :
    Calls Try.prog 27 #[.pointer (some ⟨x, 0, none⟩)] w fun e w' => e = .returned (.bool true) ∧ Own w0 L w' := by
  obtain ⟨F, h1, h2, h3⟩ := h.fp
  have li := (List.getElem?_eq_some_iff.1 hi).1
  have lj := (List.getElem?_eq_some_iff.1 hj).1
  have lk := (List.getElem?_eq_some_iff.1 hk).1
  obtain ⟨c, s, p, hdk, hok, hfit, e0⟩ := h1 i _ hi
  obtain ⟨q, lf, hrf, -, -, l1, l2, e1⟩ := h1 j _ hj
  obtain ⟨hx, e2⟩ := h1 k _ hk
  refine (same_raw x d m c s p q lf D w ⟨hx, hdk, hrf, fun e => ?_, fun e => ?_, fun y y1 y2 => ?_⟩ hok).mono ?_
  · exact hne.2.1 (h3 i k x li lk (by rw [e0]; exact e) (by rw [e2]))
  · exact hne.2.2 (h3 j k x lj lk (by rw [e1]; exact e) (by rw [e2]))
  · exact hne.1 (h3 i j y li lj (by rw [e0]; exact y1) (by rw [e1]; exact y2))
  · rintro e w' ⟨rfl, -, hf⟩
    exact ⟨rfl, h.still hf⟩

/-- A block of cells is laid beside the things. -/
theorem Own.box (h : Own w0 L w) (cs : Array Value) (t : TypeId) : Own w0 (L ++ [cellT w.heap.size cs t]) (w.alloc (.cells cs t)) :=
  h.add (T := cellT w.heap.size cs t) ⟨heap_alloc_new w _, rfl⟩ ((Frm.refl _ _).alloc _) fun k hk => by subst hk; exact Nat.le_refl _
end calls
end Go.Proofs.Ytehdjajeonemoaa
