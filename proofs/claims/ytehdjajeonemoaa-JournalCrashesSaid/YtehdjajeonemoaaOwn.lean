/-
  Things in memory that lie apart from each other; what a call makes of one of them. Conditions: none.
-/
import Derived.Test.YtehdjajeonemoaaSame
namespace Go.Proofs.Ytehdjajeonemoaa
open Go.RowKit

/-- A thing in memory: what is said of the world and of the blocks that it takes. -/
structure Thing where
  P : World → (Nat → Prop) → Prop
  stable : ∀ w w' F G, P w F → Frm G w w' → (∀ k, F k → ¬ G k) → P w' F
  lt : ∀ w F k, P w F → F k → k < w.heap.size

/-- The things of the list lie apart, in blocks that were not there in the world w0. -/
structure Own (w0 : World) (L : List Thing) (w : World) : Prop where
  frm : Frm (fun _ => False) w0 w
  fp : ∃ F : Nat → Nat → Prop, (∀ i (T : Thing), L[i]? = some T → T.P w (F i)) ∧ (∀ i k, i < L.length → F i k → w0.heap.size ≤ k) ∧ (∀ i j k, i < L.length → j < L.length → F i k → F j k → i = j)

theorem Own.start (w0 : World) : Own w0 [] w0 := ⟨Frm.refl _ _, fun _ _ => False, fun i T h => by simp at h, fun i k h => by simp at h, fun i j k h => by simp at h⟩
theorem Own.still {w0 w w' : World} {L : List Thing} (h : Own w0 L w) (hf : Frm (fun _ => False) w w') : Own w0 L w' := by
  obtain ⟨F, h1, h2, h3⟩ := h.fp
  exact ⟨h.frm.trans hf, F, fun i T hi => T.stable _ _ _ _ (h1 i T hi) hf fun _ _ h => h, h2, h3⟩
theorem Own.drew {w0 w : World} {L : List Thing} (h : Own w0 L w) : Own w0 L w.drew := h.still (Frm.refl _ _).drew
theorem Own.drewN {w0 w : World} {L : List Thing} (h : Own w0 L w) (n : Nat) : Own w0 L (w.drewN n) := h.still ((Frm.refl _ _).drewN n)
theorem Own.alloc {w0 w : World} {L : List Thing} (h : Own w0 L w) (o : Obj) : Own w0 L (w.alloc o) := h.still ((Frm.refl _ _).alloc o)
theorem Own.get {w0 w : World} {L : List Thing} (h : Own w0 L w) {i : Nat} {T : Thing} (hi : L[i]? = some T) : ∃ F, T.P w F := by
  obtain ⟨F, h1, h2, h3⟩ := h.fp
  exact ⟨F i, h1 i T hi⟩

theorem Own.turn {w0 w : World} {L : List Thing} (h : Own w0 L w) {i : Nat} {T : Thing} (hi : L[i]? = some T) :
    ∃ F, T.P w F ∧ (∀ k, F k → w0.heap.size ≤ k) ∧ ∀ (T' : Thing) (F' : Nat → Prop) (w' : World), T'.P w' F' → Frm F w w' → Sub w F F' → Own w0 (L.set i T') w' := by
  obtain ⟨F, h1, h2, h3⟩ := h.fp
  have hil : i < L.length := (List.getElem?_eq_some_iff.1 hi).1
  refine ⟨F i, h1 i T hi, fun k => h2 i k hil, fun T' F' w' hT hf hs => ?_⟩
  refine ⟨h.frm.trans' hf fun k hk => .inr (h2 i k hil hk), fun j => if j = i then F' else F j, fun j U hj => ?_, fun j k hj hk => ?_, fun a b k ha hb hka hkb => ?_⟩
  · by_cases e : j = i
    · subst e
      simp only [if_true]
      rw [List.getElem?_set_self hil] at hj
      cases hj
      exact hT
    · simp only [if_neg e]
      rw [List.getElem?_set_ne (fun h => e h.symm)] at hj
      exact U.stable _ _ _ _ (h1 j U hj) hf fun k hk hk2 => e (h3 j i k (List.getElem?_eq_some_iff.1 hj).1 hil hk hk2)
  · rw [List.length_set] at hj
    by_cases e : j = i
    · simp only [if_pos e] at hk
      rcases hs k hk with hk | hk
      · exact h2 i k hil hk
      · exact Nat.le_trans h.frm.size hk
    · simp only [if_neg e] at hk
      exact h2 j k hj hk
  · rw [List.length_set] at ha hb
    have key : ∀ j, j < L.length → j ≠ i → F j k → F' k → False := by
      intro j hj hne hk1 hk2
      rcases hs k hk2 with e | e
      · exact hne (h3 j i k hj hil hk1 e)
      · have hj' : L[j]? = some L[j] := List.getElem?_eq_getElem hj
        have := (L[j]).lt w (F j) k (h1 j _ hj') hk1
        omega
    by_cases ea : a = i <;> by_cases eb : b = i
    · rw [ea, eb]
    · simp only [if_pos ea] at hka
      simp only [if_neg eb] at hkb
      exact (key b hb eb hkb hka).elim
    · simp only [if_neg ea] at hka
      simp only [if_pos eb] at hkb
      exact (key a ha ea hka hkb).elim
    · simp only [if_neg ea] at hka
      simp only [if_neg eb] at hkb
      exact h3 a b k ha hb hka hkb

theorem Own.add {w0 w w' : World} {L : List Thing} (h : Own w0 L w) {T : Thing} {F' : Nat → Prop} (hT : T.P w' F') (hf : Frm (fun _ => False) w w') (hs : ∀ k, F' k → w.heap.size ≤ k) : Own w0 (L ++ [T]) w' := by
  obtain ⟨F, h1, h2, h3⟩ := h.fp
  have key : ∀ j k, j < L.length → F j k → F' k → False := by
    intro j k hj hk1 hk2
    have hj' : L[j]? = some L[j] := List.getElem?_eq_getElem hj
    have := (L[j]).lt w (F j) k (h1 j _ hj') hk1
    have := hs k hk2
    omega
  refine ⟨h.frm.trans hf, fun j => if j = L.length then F' else F j, fun j U hj => ?_, fun j k hj hk => ?_, fun a b k ha hb hka hkb => ?_⟩
  · by_cases e : j = L.length
    · subst e
      simp only [if_true]
      simp at hj
      cases hj
      exact hT
    · have hjl : j < L.length := by
        have := (List.getElem?_eq_some_iff.1 hj).1
        simp at this
        omega
      simp only [if_neg e]
      rw [List.getElem?_append_left hjl] at hj
      exact U.stable _ _ _ _ (h1 j U hj) hf fun _ _ h => h
  · simp at hj
    by_cases e : j = L.length
    · simp only [if_pos e] at hk
      exact Nat.le_trans h.frm.size (hs k hk)
    · simp only [if_neg e] at hk
      exact h2 j k (by omega) hk
  · simp at ha hb
    by_cases ea : a = L.length <;> by_cases eb : b = L.length
    · rw [ea, eb]
    · simp only [if_pos ea] at hka
      simp only [if_neg eb] at hkb
      exact (key b k (by omega) hkb hka).elim
    · simp only [if_neg ea] at hka
      simp only [if_pos eb] at hkb
      exact (key a k (by omega) hka hkb).elim
    · simp only [if_neg ea] at hka
      simp only [if_neg eb] at hkb
      exact h3 a b k (by omega) (by omega) hka hkb

/-- Two things whose blocks lie apart are one. -/
theorem Own.join {w0 w : World} {L : List Thing} {T : Thing} (n : Nat) (h : Own w0 L w) (hn : n ≤ L.length) (hT : ∀ F : Nat → Nat → Prop, (∀ i (U : Thing), L[i]? = some U → i < n → U.P w (F i)) → (∀ i j k, i < n → j < n → F i k → F j k → i = j) → T.P w (fun k => ∃ i, i < n ∧ F i k)) : Own w0 (T :: L.drop n) w := by
  obtain ⟨F, h1, h2, h3⟩ := h.fp
  refine ⟨h.frm, fun j => match j with | 0 => fun k => ∃ i, i < n ∧ F i k | j + 1 => F (n + j), fun j U hj => ?_, fun j k hj hk => ?_, fun a b k ha hb hka hkb => ?_⟩
  · cases j with
    | zero =>
      simp at hj
      subst hj
      exact hT F (fun i U hi _ => h1 i U hi) (fun i j k hi hj => h3 i j k (by omega) (by omega))
    | succ j =>
      simp at hj
      exact h1 (n + j) U hj
  · cases j with
    | zero =>
      obtain ⟨i, hi, hk⟩ := hk
      exact h2 i k (by omega) hk
    | succ j =>
      simp at hj
      exact h2 (n + j) k (by omega) hk
  · simp only [List.length_cons, List.length_drop] at ha hb
    cases a with
    | zero =>
      cases b with
      | zero => rfl
      | succ b =>
        obtain ⟨i, hi, hk⟩ := hka
        have := h3 i (n + b) k (by omega) (by omega) hk hkb
        omega
    | succ a =>
      cases b with
      | zero =>
        obtain ⟨i, hi, hk⟩ := hkb
        have := h3 i (n + a) k (by omega) (by omega) hk hka
        omega
      | succ b =>
        have := h3 (n + a) (n + b) k (by omega) (by omega) hka hkb
        omega

/-- A thing is parted into things whose blocks lie apart. -/
theorem Own.part {w0 w : World} {L M : List Thing} {T : Thing} (h : Own w0 (T :: L) w) (hT : ∀ F, T.P w F → ∃ G : Nat → Nat → Prop, (∀ i (U : Thing), M[i]? = some U → U.P w (G i)) ∧ (∀ i k, i < M.length → G i k → F k) ∧ (∀ i j k, i < M.length → j < M.length → G i k → G j k → i = j)) : Own w0 (M ++ L) w := by
  obtain ⟨F, h1, h2, h3⟩ := h.fp
  obtain ⟨G, g1, g2, g3⟩ := hT (F 0) (h1 0 T rfl)
  refine ⟨h.frm, fun j => if j < M.length then G j else F (j - M.length + 1), fun j U hj => ?_, fun j k hj hk => ?_, fun a b k ha hb hka hkb => ?_⟩
  · by_cases e : j < M.length
    · simp only [if_pos e]
      rw [List.getElem?_append_left e] at hj
      exact g1 j U hj
    · simp only [if_neg e]
      rw [List.getElem?_append_right (by omega)] at hj
      exact h1 _ U (by simpa using hj)
  · rw [List.length_append] at hj
    by_cases e : j < M.length
    · simp only [if_pos e] at hk
      exact h2 0 k (by simp) (g2 j k e hk)
    · simp only [if_neg e] at hk
      exact h2 _ k (by simp; omega) hk
  · rw [List.length_append] at ha hb
    by_cases ea : a < M.length <;> by_cases eb : b < M.length
    · simp only [if_pos ea] at hka
      simp only [if_pos eb] at hkb
      exact g3 a b k ea eb hka hkb
    · simp only [if_pos ea] at hka
      simp only [if_neg eb] at hkb
      have := h3 0 _ k (by simp) (by simp; omega) (g2 a k ea hka) hkb
      omega
    · simp only [if_neg ea] at hka
      simp only [if_pos eb] at hkb
      have := h3 0 _ k (by simp) (by simp; omega) (g2 b k eb hkb) hka
      omega
    · simp only [if_neg ea] at hka
      simp only [if_neg eb] at hkb
      have := h3 _ _ k (by simp; omega) (by simp; omega) hka hkb
      omega

/-- A block of cells. -/
def cellT (x : Nat) (cs : Array Value) (t : TypeId) : Thing where
  P w F := w.heap[x]? = some (.cells cs t (0, 0)) ∧ F = fun k => k = x
  stable w w' F G h hf hF := ⟨hf.heap h.1 (hF x (by rw [h.2])), h.2⟩
  lt w F k h hk := by
    rw [h.2] at hk
    subst hk
    exact (Array.getElem?_eq_some_iff.1 h.1).1

/-- A disk. -/
def diskT (d : Nat) (D : Dk) (n : Nat) : Thing where
  P w F := ∃ c s p, DiskR w d c s p D ∧ D.Ok ∧ D.Fit n ∧ F = DkF d c s p
  stable w w' F G h hf hF := by
    obtain ⟨c, s, p, h, ho, hn, rfl⟩ := h
    exact ⟨c, s, p, h.frm hf hF, ho, hn, rfl⟩
  lt w F k h hk := by
    obtain ⟨c, s, p, h, ho, hn, rfl⟩ := h
    exact h.Flt hk

/-- A reference disk. -/
def refT (m : Nat) (D : Dk) (n : Nat) : Thing where
  P w F := ∃ p lf, RefR w m p lf D ∧ D.Ok ∧ D.Fit n ∧ -(n : Int) ≤ lf ∧ lf ≤ n ∧ F = RfF m p
  stable w w' F G h hf hF := by
    obtain ⟨p, lf, h, ho, hn, l1, l2, rfl⟩ := h
    exact ⟨p, lf, h.frm hf hF, ho, hn, l1, l2, rfl⟩
  lt w F k h hk := by
    obtain ⟨p, lf, h, ho, hn, l1, l2, rfl⟩ := h
    exact h.Flt hk

/-- A desk. -/
def deskT (x d m : Nat) (D : Dk) (n : Nat) : Thing where
  P w F := ∃ c s p q lf, DeskR w x d m c s p q lf D D ∧ D.Ok ∧ D.Fit n ∧ -(n : Int) ≤ lf ∧ lf ≤ n ∧ F = DsF x d m c s p q
  stable w w' F G h hf hF := by
    obtain ⟨c, s, p, q, lf, h, ho, hn, l1, l2, rfl⟩ := h
    exact ⟨c, s, p, q, lf, h.frm hf hF, ho, hn, l1, l2, rfl⟩
  lt w F k h hk := by
    obtain ⟨c, s, p, q, lf, h, ho, hn, l1, l2, rfl⟩ := h
    exact h.Flt hk

theorem Own.obj {w0 w : World} {L : List Thing} (h : Own w0 L w) {x : Nat} {cs : Array Value} {t : TypeId} (i : Nat) (hi : L[i]? = some (cellT x cs t)) : w.heap[x]? = some (.cells cs t (0, 0)) := by
  obtain ⟨F, hF⟩ := h.get hi
  exact hF.1

section calls
variable {w0 w : World} {L : List Thing}

/-! Contracts over things. -/
theorem own_new (h : Own w0 L w) : Calls Try.prog 20 #[] w fun e w' => ∃ d, e = .returned (.pointer (some ⟨d, 0, none⟩)) ∧ Own w0 (L ++ [diskT d Dk.new 0]) w' := by
  refine (new_abs w).mono ?_
  rintro e w' ⟨rfl, hd, hf⟩
  refine ⟨_, rfl, h.add (T := diskT w.heap.size Dk.new 0) ⟨_, _, _, hd, Dk.ok_new, ⟨Nat.le_refl _, Nat.le_refl _, Nat.le_refl _⟩, rfl⟩ hf ?_⟩
  rintro k (rfl | hk | hk | hk)
  · exact Nat.le_refl _
  · exact absurd hk Blk.nil
  · exact absurd hk Blk.nil
  · exact absurd hk Blk.nil

theorem own_rnew (h : Own w0 L w) : Calls Try.prog 21 #[] w fun e w' => ∃ m, e = .returned (.pointer (some ⟨m, 0, none⟩)) ∧ Own w0 (L ++ [refT m Dk.new 0]) w' := by
  refine (rnew_abs w).mono ?_
  rintro e w' ⟨rfl, hd, hf⟩
  refine ⟨_, rfl, h.add (T := refT w.heap.size Dk.new 0) ⟨_, _, hd, Dk.ok_new, ⟨Nat.le_refl _, Nat.le_refl _, Nat.le_refl _⟩, Int.le_refl _, Int.le_refl _, rfl⟩ hf ?_⟩
  rintro k (rfl | hk)
  · exact Nat.le_refl _
  · exact absurd hk Blk.nil

theorem own_size (h : Own w0 L w) {d : Nat} {D : Dk} {n : Nat} (i : Nat) (hi : L[i]? = some (diskT d D n)) : Calls Try.prog 23 #[.pointer (some ⟨d, 0, none⟩)] w fun e w' => e = .returned (.int .i64 D.now.length) ∧ w = w' := by
  obtain ⟨F, c, s, p, hd, _⟩ := h.get hi
  obtain ⟨ao, cap, rfl, -⟩ := hd.bc.slice
  exact size_any d _ _ _ _ _ _ _ _ w hd.obj
theorem own_rsize (h : Own w0 L w) {m : Nat} {D : Dk} {n : Nat} (i : Nat) (hi : L[i]? = some (refT m D n)) : Calls Try.prog 24 #[.pointer (some ⟨m, 0, none⟩)] w fun e w' => e = .returned (.int .i64 D.now.length) ∧ w = w' := by
  obtain ⟨F, p, lf, hd, _⟩ := h.get hi
  exact rsize_any m D.now _ _ _ _ _ w hd.obj
theorem own_calls (h : Own w0 L w) {d : Nat} {D : Dk} {n : Nat} (i : Nat) (hi : L[i]? = some (diskT d D n)) : Calls Try.prog 25 #[.pointer (some ⟨d, 0, none⟩)] w fun e w' => e = .returned (.int .i64 D.calls) ∧ w = w' := by
  obtain ⟨F, c, s, p, hd, _⟩ := h.get hi
  exact calls_any d _ _ _ _ _ _ w hd.obj
theorem own_rcalls (h : Own w0 L w) {m : Nat} {D : Dk} {n : Nat} (i : Nat) (hi : L[i]? = some (refT m D n)) : Calls Try.prog 26 #[.pointer (some ⟨m, 0, none⟩)] w fun e w' => e = .returned (.int .i64 D.calls) ∧ w = w' := by
  obtain ⟨F, p, lf, hd, _⟩ := h.get hi
  exact rcalls_any m _ _ _ _ _ _ w hd.obj
theorem own_read (h : Own w0 L w) {d : Nat} {D : Dk} {n : Nat} (i : Nat) (hi : L[i]? = some (diskT d D n)) (off k : Int) (hk : k ≤ 9223372036854775807) : Calls Try.prog 35 #[.pointer (some ⟨d, 0, none⟩), .int .i64 off, .int .i64 k] w fun e w' => e = .returned (.string ⟨(D.read off k).toArray⟩) ∧ Own w0 L w' := by
  obtain ⟨F, c, s, p, hd, hok, _⟩ := h.get hi
  refine (read_any d c s p D off k w hd hok hk).mono ?_
  rintro e w' ⟨rfl, j, rfl⟩
  exact ⟨rfl, h.drewN j⟩
theorem own_rread (h : Own w0 L w) {m : Nat} {D : Dk} {n : Nat} (i : Nat) (hi : L[i]? = some (refT m D n)) (off k : Int) (hk : k ≤ 9223372036854775807) : Calls Try.prog 37 #[.pointer (some ⟨m, 0, none⟩), .int .i64 off, .int .i64 k] w fun e w' => e = .returned (.string ⟨(D.read off k).toArray⟩) ∧ Own w0 L w' := by
  obtain ⟨F, p, lf, hd, hok, _⟩ := h.get hi
  refine (rread_any m D.now _ _ _ _ _ off k w hd.obj hk hok.len).mono ?_
  rintro e w' ⟨rfl, j, rfl⟩
  exact ⟨rfl, h.drewN j⟩

theorem own_write (h : Own w0 L w) {d : Nat} {D : Dk} {n : Nat} (i : Nat) (hi : L[i]? = some (diskT d D n)) (off : Int) (s : ByteArray) (hn : n + s.size ≤ 1099511627776) (ho : -9223372036854775808 ≤ off) :
    Calls Try.prog 33 #[.pointer (some ⟨d, 0, none⟩), .int .i64 off, .string s] w fun e w' => e = .returned (.int .i64 (D.write off s.data.toList).1) ∧ Own w0 (L.set i (diskT d (D.write off s.data.toList).2 (n + s.size + 1))) w' := by
  obtain ⟨F, ⟨c, s', p, hd, hok, hfit, rfl⟩, _, ht⟩ := h.turn hi
  refine (write_any d c s' p D n off s w hd hok hfit hn ho).mono ?_
  rintro e w' ⟨rfl, c2, p2, hd2, hf, hs⟩
  have hfw := hfit.write off s.data.toList
  rw [size_toList] at hfw
  exact ⟨rfl, ht _ _ w' ⟨c2, s', p2, hd2, Dk.ok_write hok _ _, hfw, rfl⟩ hf hs⟩
theorem own_sync (h : Own w0 L w) {d : Nat} {D : Dk} {n : Nat} (i : Nat) (hi : L[i]? = some (diskT d D n)) (hn : n ≤ 1099511627776) :
    Calls Try.prog 34 #[.pointer (some ⟨d, 0, none⟩)] w fun e w' => e = .returned (.int .i64 D.sync.1) ∧ Own w0 (L.set i (diskT d D.sync.2 (n + 1))) w' := by
  obtain ⟨F, ⟨c, s', p, hd, hok, hfit, rfl⟩, _, ht⟩ := h.turn hi
  refine (sync_any d c s' p D n w hd hok hfit hn).mono ?_
  rintro e w' ⟨rfl, s2, p2, hd2, hf, hs⟩
  exact ⟨rfl, ht _ _ w' ⟨c, s2, p2, hd2, Dk.ok_sync hok, hfit.sync, rfl⟩ hf hs⟩
theorem own_fail (h : Own w0 L w) {d : Nat} {D : Dk} {n : Nat} (i : Nat) (hi : L[i]? = some (diskT d D n)) (k : Int) (n' : Nat) (hn : n ≤ n') (hk : k ≤ n') :
    Calls Try.prog 36 #[.pointer (some ⟨d, 0, none⟩), .int .i64 k] w fun e w' => e = .returned (.tuple #[]) ∧ Own w0 (L.set i (diskT d (D.fail k) n')) w' := by
  obtain ⟨F, ⟨c, s', p, hd, hok, hfit, rfl⟩, _, ht⟩ := h.turn hi
  refine (fail_any d _ _ _ _ _ _ k w hd.obj rfl rfl).mono ?_
  rintro e w' ⟨rfl, ho, hf⟩
  exact ⟨rfl, ht _ _ w' ⟨c, s', p, hd.renew (D' := D.fail k) hf ho rfl rfl rfl, Dk.ok_fail hok _, (hfit.mono hn).fail k hk, rfl⟩ (hf.mono fun k hk => .inl hk) (Sub.refl _ _)⟩
theorem own_crash (h : Own w0 L w) {d : Nat} {D : Dk} {n : Nat} (i : Nat) (hi : L[i]? = some (diskT d D n)) (hn : n ≤ 1099511627776) (aq : Option Addr) (capq : Nat) (q : List Int) (hq : IntsAt w aq q) (hql : q.length ≤ 9223372036854775807) :
    Calls Try.prog 29 #[.pointer (some ⟨d, 0, none⟩), .slice aq q.length capq] w fun e w' => ∃ d', e = .returned (.pointer (some ⟨d', 0, none⟩)) ∧ Own w0 (L ++ [diskT d' (D.crash q) 0]) w' := by
  obtain ⟨F, c, s', p, hd, hok, hfit, _⟩ := h.get hi
  refine (crash_any d c s' p D aq capq q w hd hok hq hql (by have := hfit.pend; omega)).mono ?_
  rintro e w' ⟨rfl, c2, s2, hd2, hf, hs⟩
  exact ⟨_, rfl, h.add (T := diskT w.heap.size (D.crash q) 0) ⟨c2, s2, _, hd2, Dk.ok_crash hok q, Dk.Fit.crash q, rfl⟩ hf hs⟩
theorem own_rcrash (h : Own w0 L w) {m : Nat} {D : Dk} {n : Nat} (i : Nat) (hi : L[i]? = some (refT m D n)) (hn : n ≤ 1099511627776) (aq : Option Addr) (capq : Nat) (q : List Int) (hq : IntsAt w aq q) (hql : q.length ≤ 9223372036854775807) :
    Calls Try.prog 30 #[.pointer (some ⟨m, 0, none⟩), .slice aq q.length capq] w fun e w' => ∃ m', e = .returned (.pointer (some ⟨m', 0, none⟩)) ∧ Own w0 (L ++ [refT m' (D.crash q) 0]) w' := by
  obtain ⟨F, p, lf, hd, hok, hfit, _⟩ := h.get hi
  refine (rcrash_any m p lf D aq capq q w hd hok hq hql (by have := hfit.pend; omega)).mono ?_
  rintro e w' ⟨m', rfl, hd2, hf, hs⟩
  refine ⟨_, rfl, h.add (T := refT m' (D.crash q) 0) ⟨_, _, hd2, Dk.ok_crash hok q, Dk.Fit.crash q, Int.le_refl _, Int.le_refl _, rfl⟩ hf ?_⟩
  rintro k (rfl | hk)
  · exact hs
  · exact absurd hk Blk.nil
end calls
end Go.Proofs.Ytehdjajeonemoaa
