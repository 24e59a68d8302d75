/-
  do: an act on a disk and its reference. Conditions: numbers within their kinds.
-/
import Derived.Test.YtehdjajeonemoaaDesk
namespace Go.Proofs.Ytehdjajeonemoaa
open Go.RowKit

def actO (kind off nn : Int) (t : ByteArray) : Obj := .cells #[.int .i64 kind, .int .i64 off, .int .i64 nn, .string t] 33

theorem Sub.down {w w' : World} {F G : Nat → Prop} (h : Sub w' F G) (hs : w.heap.size ≤ w'.heap.size) : Sub w F G := fun x hx => (h x hx).imp id (Nat.le_trans hs)

set_option maxRecDepth 100000 in
set_option maxHeartbeats 2000000 in
theorem do_sync (x d m : Nat) (c s p q : Value) (lf : Int) (D : Dk) (n : Nat) (kind off nn : Int) (t : ByteArray) (w : World) (h : DeskR w x d m c s p q lf D D) (hok : D.Ok) (hfit : D.Fit n) (hn : n ≤ 1099511627776) (hl : -(n : Int) ≤ lf) (hl2 : lf ≤ n)
    (hk : kind % 8 = 4) (hk1 : -9223372036854775808 ≤ kind) (hk2 : kind ≤ 9223372036854775807) :
    Calls Try.prog 22 #[.pointer (some ⟨x, 0, none⟩), .agg #[.int .i64 kind, .int .i64 off, .int .i64 nn, .string t]] w fun e w' => e = .returned (.bool true) ∧ ∃ s2 p2 q2 lf2, DeskR w' x d m c s2 p2 q2 lf2 D.sync.2 D.sync.2 ∧ lf - 1 ≤ lf2 ∧ lf2 ≤ lf ∧ Frm (DsF x d m c s p q) w w' ∧ Sub w (DsF x d m c s p q) (DsF x d m c s2 p2 q2) := by
  have hF := ((Frm.refl (fun _ => False) w).alloc (.cells #[.int .i64 kind, .int .i64 off, .int .i64 nn, .string t] 33)).drew
  have h1 := h.still hF
  obtain ⟨c0, c1, -⟩ := cells2 h1.obj
  have H1 := Lib.hid h1
  have HF := Lib.hid hF
  clear h h1 hF
  go_enter Try.func22, Try.ntmps22
  go_wp2_with (go_at_call 28; refine (mod_any kind 8 _ (by omega) (by omega) hk1 hk2).mono ?_; rintro e w' ⟨rfl, rfl⟩)
  go_region_held3 (fun w' => w'.cell? ⟨x, 0, none⟩ = some (.pointer (some ⟨d, 0, none⟩)) ∧ w'.cell? ⟨x, 1, none⟩ = some (.pointer (some ⟨m, 0, none⟩)))
    (first | exact ⟨c0, c1⟩ | exact ⟨k0, k1⟩ | exact ⟨j0, j1⟩)
    (first
      | (go_at_call 34; refine (sync_any d c s p D n _ H1.out.dk hok hfit hn).mono ?_; rintro e w1 ⟨rfl, s2, p2, hd, hf, hs⟩; have K1 := Lib.hid (H1.out.disk hd hf hs); have k0 := (cells2 K1.out.1.obj).1; have k1 := (cells2 K1.out.1.obj).2.1)
      | (go_at_call 48; refine (rsync_any m q lf D n _ K1.out.1.rf hfit hn hl hl2).mono ?_; rintro e w2 ⟨rfl, q2, lf2, hr, hl3, hl4, hrf, hrs⟩; have K2 := Lib.hid (K1.out.1.ref hr hrf hrs); have j0 := (cells2 K2.out.1.obj).1; have j1 := (cells2 K2.out.1.obj).2.1))
  go_wp2
  go_ret
  exact ⟨rfl, s2, p2, q2, lf2, K2.out.1, hl3, hl4, (HF.out.mono fun _ h => h.elim).trans (K1.out.2.1.trans' K2.out.2.1 K1.out.2.2), (K1.out.2.2.trans K2.out.2.2 K1.out.2.1.size).down HF.out.size⟩

set_option maxRecDepth 100000 in
set_option maxHeartbeats 2000000 in
theorem do_fail (x d m : Nat) (c s p q : Value) (lf : Int) (D : Dk) (kind off nn : Int) (t : ByteArray) (w : World) (h : DeskR w x d m c s p q lf D D)
    (hk : kind % 8 = 6) (hk1 : -9223372036854775808 ≤ kind) (hk2 : kind ≤ 9223372036854775807) (hn1 : -9223372036854775808 ≤ nn) (hn2 : nn ≤ 9223372036854775807) :
    Calls Try.prog 22 #[.pointer (some ⟨x, 0, none⟩), .agg #[.int .i64 kind, .int .i64 off, .int .i64 nn, .string t]] w fun e w' => e = .returned (.bool true) ∧ DeskR w' x d m c s p q (nn % 9 - 1) (D.fail (nn % 9 - 1)) (D.fail (nn % 9 - 1)) ∧ Frm (DsF x d m c s p q) w w' := by
  have hF := (Frm.refl (fun _ => False) w).alloc (.cells #[.int .i64 kind, .int .i64 off, .int .i64 nn, .string t] 33)
  have h1 := h.still hF
  obtain ⟨c0, c1, -⟩ := cells2 h1.obj
  have b0 : 0 ≤ nn % 9 := Int.emod_nonneg _ (by omega)
  have b1 : nn % 9 < 9 := Int.emod_lt_of_pos _ (by omega)
  have H1 := Lib.hid h1
  have HF := Lib.hid hF
  clear h h1 hF
  go_enter Try.func22, Try.ntmps22
  go_wp2_with fail
  refine (mod_any kind 8 _ (by omega) (by omega) hk1 hk2).mono ?_
  rintro e w' ⟨rfl, rfl⟩
  go_wp2_with fail
  refine (mod_any nn 9 _ (by omega) (by omega) hn1 hn2).mono ?_
  rintro e w' ⟨rfl, rfl⟩
  go_wp2_with fail
  refine (fail_any d _ _ _ _ _ _ _ _ H1.out.dk.obj rfl rfl).mono ?_
  rintro e w1 ⟨rfl, ho1, hf1⟩
  have hd := H1.out.dk.renew (D' := D.fail (nn % 9 - 1)) hf1 ho1 rfl rfl rfl
  obtain ⟨K1, F1, S1⟩ := H1.out.disk hd (hf1.mono fun k hk => .inl hk) (Sub.refl _ _)
  obtain ⟨k0, k1, -⟩ := cells2 K1.obj
  clear c0 c1 ho1 hf1 hd S1
  go_wp2_with fail
  refine (rfail_any m _ _ _ _ _ _ _ _ K1.rf.obj).mono ?_
  rintro e w2 ⟨rfl, ho2, hf2⟩
  have hr := K1.rf.renew (D' := D.fail (nn % 9 - 1)) (lf' := nn % 9 - 1) hf2 ho2 rfl (by
    intro hh
    have h0 : 0 ≤ nn % 9 - 1 := of_decide_eq_true hh
    show nn % 9 - 1 = (((nn % 9 - 1).toNat : Nat) : Int)
    omega)
  obtain ⟨K2, F2, -⟩ := K1.ref hr (hf2.mono fun k hk => .inl hk) (Sub.refl _ _)
  clear hr ho2 hf2 K1 k0 k1
  go_wp2
  go_ret
  exact ⟨rfl, K2, (HF.out.mono fun _ h => h.elim).trans (F1.trans F2)⟩

/-- Where an act stands: the desk, and the act's own block A. -/
structure St (w : World) (F : Nat → Prop) (x d m A : Nat) (act : Array Value) (lo hi : Int) (D E : Dk) (w' : World) : Prop where
  desk : ∃ c s p q lf, DeskR w' x d m c s p q lf D E ∧ lo ≤ lf ∧ lf ≤ hi ∧ Sub w F (DsF x d m c s p q) ∧ ¬ DsF x d m c s p q A
  act : w'.heap[A]? = some (.cells act 33 (0, 0))
  frm : Frm F w w'
  old : w.heap.size ≤ A

theorem St.still {w : World} {F : Nat → Prop} {x d m A : Nat} {act : Array Value} {lo hi : Int} {D E : Dk} {w1 w2 : World} (hf : Frm (fun _ => False) w1 w2) (h : St w F x d m A act lo hi D E w1) : St w F x d m A act lo hi D E w2 := by
  obtain ⟨c, s, p, q, lf, hd, r⟩ := h.desk
  exact ⟨⟨c, s, p, q, lf, hd.still hf, r⟩, hf.heap h.act (fun h => h), h.frm.trans (hf.mono fun _ h => h.elim), h.old⟩

theorem St.cells {w : World} {F : Nat → Prop} {x d m A : Nat} {a0 a1 a2 a3 : Value} {lo hi : Int} {D E : Dk} {w1 : World} (h : St w F x d m A #[a0, a1, a2, a3] lo hi D E w1) :
    w1.cell? ⟨x, 0, none⟩ = some (.pointer (some ⟨d, 0, none⟩)) ∧ w1.cell? ⟨x, 1, none⟩ = some (.pointer (some ⟨m, 0, none⟩)) ∧ w1.cell? ⟨A, 0, none⟩ = some a0 ∧ w1.cell? ⟨A, 1, none⟩ = some a1 ∧ w1.cell? ⟨A, 2, none⟩ = some a2 ∧ w1.cell? ⟨A, 3, none⟩ = some a3 := by
  obtain ⟨c, s, p, q, lf, hd, r⟩ := h.desk
  obtain ⟨c0, c1, -⟩ := cells2 hd.obj
  refine ⟨c0, c1, ?_, ?_, ?_, ?_⟩ <;> (rw [cell_of_row _ _ _ _ _ _ h.act]; rfl)

theorem St.turn {w : World} {F : Nat → Prop} {x d m d' m' A : Nat} {act : Array Value} {lo hi lo' hi' : Int} {D E D' E' : Dk} {w1 w2 : World} {c s p q c' s' p' q' : Value} {lf lf' : Int} (h : St w F x d m A act lo hi D E w1) (_h0 : DeskR w1 x d m c s p q lf D E) (hA : ¬ DsF x d m c s p q A) (hS : Sub w F (DsF x d m c s p q))
    (h1 : DeskR w2 x d' m' c' s' p' q' lf' D' E') (hf : Frm (DsF x d m c s p q) w1 w2) (hs : Sub w1 (DsF x d m c s p q) (DsF x d' m' c' s' p' q')) (hl : lo' ≤ lf') (hl2 : lf' ≤ hi') : St w F x d' m' A act lo' hi' D' E' w2 := by
  have hA2 : A < w1.heap.size := (Array.getElem?_eq_some_iff.1 h.act).1
  refine ⟨⟨c', s', p', q', lf', h1, hl, hl2, hS.trans hs h.frm.size, fun e => ?_⟩, hf.heap h.act hA, h.frm.trans' hf hS, h.old⟩
  rcases hs A e with e | e
  · exact hA e
  · omega

theorem write_st {w : World} {F : Nat → Prop} {x d m A : Nat} {act : Array Value} {lo hi : Int} {D E : Dk} {w1 : World} (h : St w F x d m A act lo hi D E w1) (n : Nat) (off : Int) (s : ByteArray) (hok : D.Ok) (hfit : D.Fit n) (hn : n + s.size ≤ 1099511627776) (ho : -9223372036854775808 ≤ off) :
    Calls Try.prog 33 #[.pointer (some ⟨d, 0, none⟩), .int .i64 off, .string s] w1 fun e w' => e = .returned (.int .i64 (D.write off s.data.toList).1) ∧ St w F x d m A act lo hi (D.write off s.data.toList).2 E w' := by
  obtain ⟨c, s', p, q, lf, hd, l1, l2, hS, hA⟩ := h.desk
  refine (write_any d c s' p D n off s w1 hd.dk hok hfit hn ho).mono ?_
  rintro e w2 ⟨rfl, c2, p2, h1, hf, hs⟩
  obtain ⟨K, F1, S1⟩ := hd.disk h1 hf hs
  exact ⟨rfl, h.turn hd hA hS K F1 S1 l1 l2⟩

theorem rwrite_st {w : World} {F : Nat → Prop} {x d m A : Nat} {act : Array Value} {lo hi : Int} {D E : Dk} {w1 : World} (h : St w F x d m A act lo hi D E w1) (n : Nat) (off : Int) (s : ByteArray) (hok : E.Ok) (hfit : E.Fit n) (hn : n + s.size ≤ 1099511627776) (ho : -9223372036854775808 ≤ off) (hlo : -(n : Int) ≤ lo) (hhi : hi ≤ n) :
    Calls Try.prog 38 #[.pointer (some ⟨m, 0, none⟩), .int .i64 off, .string s] w1 fun e w' => e = .returned (.int .i64 (E.write off s.data.toList).1) ∧ St w F x d m A act (lo - 1) hi D (E.write off s.data.toList).2 w' := by
  obtain ⟨c, s', p, q, lf, hd, l1, l2, hS, hA⟩ := h.desk
  refine (rwrite_any m q lf E n off s w1 hd.rf hok hfit hn (by omega) (by omega) ho).mono ?_
  rintro e w2 ⟨rfl, p2, lf2, h1, l3, l4, hf, hs⟩
  obtain ⟨K, F1, S1⟩ := hd.ref h1 hf hs
  exact ⟨rfl, h.turn hd hA hS K F1 S1 (by omega) (by omega)⟩

theorem read_st {w : World} {F : Nat → Prop} {x d m A : Nat} {act : Array Value} {lo hi : Int} {D E : Dk} {w1 : World} (h : St w F x d m A act lo hi D E w1) (off n : Int) (hok : D.Ok) (hn : n ≤ 9223372036854775807) :
    Calls Try.prog 35 #[.pointer (some ⟨d, 0, none⟩), .int .i64 off, .int .i64 n] w1 fun e w' => e = .returned (.string ⟨(D.read off n).toArray⟩) ∧ St w F x d m A act lo hi D E w' := by
  obtain ⟨c, s', p, q, lf, hd, l1, l2, hS, hA⟩ := h.desk
  refine (read_any d c s' p D off n w1 hd.dk hok hn).mono ?_
  rintro e w2 ⟨rfl, k, rfl⟩
  exact ⟨rfl, h.still ((Frm.refl _ _).drewN k)⟩

theorem rread_st {w : World} {F : Nat → Prop} {x d m A : Nat} {act : Array Value} {lo hi : Int} {D E : Dk} {w1 : World} (h : St w F x d m A act lo hi D E w1) (off n : Int) (hok : E.Ok) (hn : n ≤ 9223372036854775807) :
    Calls Try.prog 37 #[.pointer (some ⟨m, 0, none⟩), .int .i64 off, .int .i64 n] w1 fun e w' => e = .returned (.string ⟨(E.read off n).toArray⟩) ∧ St w F x d m A act lo hi D E w' := by
  obtain ⟨c, s', p, q, lf, hd, l1, l2, hS, hA⟩ := h.desk
  refine (rread_any m E.now _ _ _ _ _ off n w1 hd.rf.obj hn hok.len).mono ?_
  rintro e w2 ⟨rfl, k, rfl⟩
  exact ⟨rfl, h.still ((Frm.refl _ _).drewN k)⟩

theorem St.start {w : World} {x d m : Nat} {c s p q : Value} {lf : Int} {D E : Dk} (h : DeskR w x d m c s p q lf D E) (act : Array Value) : St w (DsF x d m c s p q) x d m w.heap.size act lf lf D E (w.alloc (.cells act 33)) := by
  have hF := (Frm.refl (fun _ => False) w).alloc (.cells act 33)
  exact ⟨⟨c, s, p, q, lf, h.still hF, Int.le_refl _, Int.le_refl _, Sub.refl _ _, fun e => by have := h.Flt e; omega⟩, heap_alloc_new w _, hF.mono fun _ h => h.elim, Nat.le_refl _⟩

set_option maxRecDepth 100000 in
set_option maxHeartbeats 4000000 in
theorem do_write (x d m : Nat) (c s p q : Value) (lf : Int) (D : Dk) (n : Nat) (kind off nn : Int) (t : ByteArray) (w : World) (h : DeskR w x d m c s p q lf D D) (hok : D.Ok) (hfit : D.Fit n) (hn : n + 200 ≤ 1099511627776) (hl : -(n : Int) ≤ lf) (hl2 : lf ≤ n)
    (hk4 : kind % 8 ≠ 4) (hk5 : kind % 8 ≠ 5) (hk6 : kind % 8 ≠ 6) (hk7 : kind % 8 ≠ 7) (hk1 : -9223372036854775808 ≤ kind) (hk2 : kind ≤ 9223372036854775807) (ho1 : -9223372036854775808 ≤ off) (ho2 : off ≤ 9223372036854775807) (hn1 : -9223372036854775808 ≤ nn) (hn2 : nn ≤ 9223372036854775807) (ht : t.size ≤ 9223372036854775807) :
    Calls Try.prog 22 #[.pointer (some ⟨x, 0, none⟩), .agg #[.int .i64 kind, .int .i64 off, .int .i64 nn, .string t]] w fun e w' => e = .returned (.bool true) ∧ St w (DsF x d m c s p q) x d m w.heap.size #[.int .i64 kind, .int .i64 off, .int .i64 nn, .string t] (lf - 1) lf (D.write (whereI off) (longL nn t.data.toList)).2 (D.write (whereI off) (longL nn t.data.toList)).2 w' := by
  have e4 : (kind % 8 == 4) = false := by simpa using hk4
  have e5 : (kind % 8 == 5) = false := by simpa using hk5
  have e6 : (kind % 8 == 6) = false := by simpa using hk6
  have e7 : (kind % 8 == 7) = false := by simpa using hk7
  have st0 := (St.start h #[.int .i64 kind, .int .i64 off, .int .i64 nn, .string t])
  have st1 := st0.still ((Frm.refl (fun _ => False) _).drew)
  have a0 := st0.cells.2.2.1
  have hws : whereI off = off ∨ (0 ≤ whereI off ∧ whereI off < 300) := by
    unfold whereI
    split
    · exact .inl rfl
    · right; exact ⟨Int.emod_nonneg _ (by omega), Int.emod_lt_of_pos _ (by omega)⟩
  have hw1 : -9223372036854775808 ≤ whereI off := by omega
  obtain ⟨wi, hwi⟩ : ∃ wi, wi = whereI off := ⟨_, rfl⟩
  obtain ⟨sl, hsl⟩ : ∃ sl : ByteArray, sl = ⟨(longL nn t.data.toList).toArray⟩ := ⟨_, rfl⟩
  have hsll : sl.data.toList = longL nn t.data.toList := by rw [hsl]
  have hsls : sl.size ≤ 200 := by rw [← size_toList, hsll]; exact longL_length _ _
  have hW : ∀ w0, Calls Try.prog 49 #[.agg #[.int .i64 kind, .int .i64 off, .int .i64 nn, .string t]] w0 fun e w' => e = .returned (.int .i64 wi) ∧ Frm (fun _ => False) w0 w' := by
    intro w0; rw [hwi]; exact where_any kind off nn t w0 ho1 ho2
  have hL : ∀ w0, Calls Try.prog 51 #[.agg #[.int .i64 kind, .int .i64 off, .int .i64 nn, .string t]] w0 fun e w' => e = .returned (.string sl) ∧ Frm (fun _ => False) w0 w' := by
    intro w0; rw [hsl]; exact long_any kind off nn t w0 hn1 hn2 ht
  rw [← hwi] at hw1 ⊢
  rw [← hsll]
  have HW := Lib.hid hW
  have HL := Lib.hid hL
  clear h hwi hsl hsll hws hk4 hk5 hk6 hk7 st0 hW hL
  go_enter Try.func22, Try.ntmps22
  go_wp2_with (go_at_call 28; refine (mod_any kind 8 _ (by omega) (by omega) hk1 hk2).mono ?_; rintro e w' ⟨rfl, rfl⟩)
  go_region_held3 (fun w' => w'.cell? ⟨x, 0, none⟩ = some (.pointer (some ⟨d, 0, none⟩)) ∧ w'.cell? ⟨x, 1, none⟩ = some (.pointer (some ⟨m, 0, none⟩)) ∧ w'.cell? ⟨w.heap.size, 0, none⟩ = some (.int .i64 kind) ∧ w'.cell? ⟨w.heap.size, 1, none⟩ = some (.int .i64 off) ∧ w'.cell? ⟨w.heap.size, 2, none⟩ = some (.int .i64 nn) ∧ w'.cell? ⟨w.heap.size, 3, none⟩ = some (.string t))
    (exact St.cells (by assumption))
    (first
      | (go_at_call 49; refine (HW.out _).mono ?_; rintro e w1 ⟨rfl, hf⟩; have st2 := St.still hf (by assumption))
      | (go_at_call 51; refine (HL.out _).mono ?_; rintro e w1 ⟨rfl, hf⟩; have st2 := St.still hf (by assumption))
      | (go_at_call 33; refine (write_st (by assumption) n wi sl hok hfit (by omega) hw1).mono ?_; rintro e w1 ⟨rfl, st2⟩)
      | (go_at_call 38; refine (rwrite_st (by assumption) n wi sl hok hfit (by omega) hw1 hl hl2).mono ?_; rintro e w1 ⟨rfl, st2⟩))
  go_wp2
  go_ret
  exact ⟨rfl, by assumption⟩
end Go.Proofs.Ytehdjajeonemoaa
