/-
  do: a Read, a Crash; then all acts. Conditions: numbers within their kinds.
-/
import Derived.Test.YtehdjajeonemoaaDo
namespace Go.Proofs.Ytehdjajeonemoaa
open Go.RowKit

set_option maxRecDepth 100000 in
set_option maxHeartbeats 4000000 in
theorem do_read (x d m : Nat) (c s p q : Value) (lf : Int) (D : Dk) (kind off nn : Int) (t : ByteArray) (w : World) (h : DeskR w x d m c s p q lf D D) (hok : D.Ok)
    (hk : kind % 8 = 5) (hk1 : -9223372036854775808 ≤ kind) (hk2 : kind ≤ 9223372036854775807) (ho1 : -9223372036854775808 ≤ off) (ho2 : off ≤ 9223372036854775807) (hn2 : nn ≤ 9223372036854775807) :
    Calls Try.prog 22 #[.pointer (some ⟨x, 0, none⟩), .agg #[.int .i64 kind, .int .i64 off, .int .i64 nn, .string t]] w fun e w' => e = .returned (.bool true) ∧ St w (DsF x d m c s p q) x d m w.heap.size #[.int .i64 kind, .int .i64 off, .int .i64 nn, .string t] lf lf D D w' := by
  have st0 := (St.start h #[.int .i64 kind, .int .i64 off, .int .i64 nn, .string t])
  have st1 := st0.still ((Frm.refl (fun _ => False) _).drew)
  have a0 := st0.cells.2.2.1
  obtain ⟨wi, hwi⟩ : ∃ wi, wi = whereI off := ⟨_, rfl⟩
  have hW : ∀ w0, Calls Try.prog 49 #[.agg #[.int .i64 kind, .int .i64 off, .int .i64 nn, .string t]] w0 fun e w' => e = .returned (.int .i64 wi) ∧ Frm (fun _ => False) w0 w' := by
    intro w0; rw [hwi]; exact where_any kind off nn t w0 ho1 ho2
  obtain ⟨r, hr⟩ : ∃ r : ByteArray, r = ⟨(D.read wi nn).toArray⟩ := ⟨_, rfl⟩
  have hD : ∀ w0, St w (DsF x d m c s p q) x d m w.heap.size #[.int .i64 kind, .int .i64 off, .int .i64 nn, .string t] lf lf D D w0 → Calls Try.prog 35 #[.pointer (some ⟨d, 0, none⟩), .int .i64 wi, .int .i64 nn] w0 fun e w' => e = .returned (.string r) ∧ St w (DsF x d m c s p q) x d m w.heap.size #[.int .i64 kind, .int .i64 off, .int .i64 nn, .string t] lf lf D D w' := by
    intro w0 h0; rw [hr]; exact read_st h0 wi nn hok hn2
  have hE : ∀ w0, St w (DsF x d m c s p q) x d m w.heap.size #[.int .i64 kind, .int .i64 off, .int .i64 nn, .string t] lf lf D D w0 → Calls Try.prog 37 #[.pointer (some ⟨m, 0, none⟩), .int .i64 wi, .int .i64 nn] w0 fun e w' => e = .returned (.string r) ∧ St w (DsF x d m c s p q) x d m w.heap.size #[.int .i64 kind, .int .i64 off, .int .i64 nn, .string t] lf lf D D w' := by
    intro w0 h0; rw [hr]; exact rread_st h0 wi nn hok hn2
  have HW := Lib.hid hW
  have HD := Lib.hid hD
  have HE := Lib.hid hE
  clear h hwi hr st0 hW hD hE
  go_enter Try.func22, Try.ntmps22
  go_wp2_with (go_at_call 28; refine (mod_any kind 8 _ (by omega) (by omega) hk1 hk2).mono ?_; rintro e w' ⟨rfl, rfl⟩)
  go_region_held3 (fun w' => w'.cell? ⟨x, 0, none⟩ = some (.pointer (some ⟨d, 0, none⟩)) ∧ w'.cell? ⟨x, 1, none⟩ = some (.pointer (some ⟨m, 0, none⟩)) ∧ w'.cell? ⟨w.heap.size, 0, none⟩ = some (.int .i64 kind) ∧ w'.cell? ⟨w.heap.size, 1, none⟩ = some (.int .i64 off) ∧ w'.cell? ⟨w.heap.size, 2, none⟩ = some (.int .i64 nn) ∧ w'.cell? ⟨w.heap.size, 3, none⟩ = some (.string t))
    (exact St.cells (by assumption))
    (first
      | (go_at_call 49; refine (HW.out _).mono ?_; rintro e w1 ⟨rfl, hf⟩; have st2 := St.still hf (by assumption))
      | (go_at_call 35; refine (HD.out _ (by assumption)).mono ?_; rintro e w1 ⟨rfl, st2⟩)
      | (go_at_call 37; refine (HE.out _ (by assumption)).mono ?_; rintro e w1 ⟨rfl, st2⟩))
  go_wp2
  go_ret
  exact ⟨rfl, by assumption⟩

/-- Where an act stands after the disk has crashed: the desk's first pointer is known by itself. -/
theorem crash_st {w : World} {F : Nat → Prop} {x d m A : Nat} {act : Array Value} {lo hi : Int} {D E : Dk} {w1 : World} (h : St w F x d m A act lo hi D E w1) (n : Nat) (aq : Option Addr) (capq : Nat) (q : List Int) (hok : D.Ok) (hfit : D.Fit n) (hn : n ≤ 1099511627776) (hq : IntsAt w1 aq q) (hql : q.length ≤ 9223372036854775807) :
    Calls Try.prog 29 #[.pointer (some ⟨d, 0, none⟩), .slice aq q.length capq] w1 fun e w' => ∃ d', e = .returned (.pointer (some ⟨d', 0, none⟩)) ∧ w'.cell? ⟨x, 0, none⟩ = some (.pointer (some ⟨d, 0, none⟩)) ∧ w'.frozen? ⟨x, 0, none⟩ = false ∧ St w F x d' m A act lo hi (D.crash q) E (w'.setCell ⟨x, 0, none⟩ (.pointer (some ⟨d', 0, none⟩))) := by
  obtain ⟨c, s', p, q', lf, hd, l1, l2, hS, hA⟩ := h.desk
  refine (crash_any d c s' p D aq capq q w1 hd.dk hok hq hql (by have := hfit.pend; omega)).mono ?_
  rintro e w2 ⟨rfl, c2, s2, h1, hf, hs⟩
  obtain ⟨K, F1, S1⟩ := hd.disk_new h1 hf hs
  have hd2 := hd.still hf
  exact ⟨w1.heap.size, rfl, (cells2 hd2.obj).1, (cells2 hd2.obj).2.2.1, h.turn hd hA hS K F1 S1 l1 l2⟩

theorem rcrash_st {w : World} {F : Nat → Prop} {x d m A : Nat} {act : Array Value} {lo hi : Int} {D E : Dk} {w1 : World} (h : St w F x d m A act lo hi D E w1) (n : Nat) (aq : Option Addr) (capq : Nat) (q : List Int) (hok : E.Ok) (hfit : E.Fit n) (hn : n ≤ 1099511627776) (hq : IntsAt w1 aq q) (hql : q.length ≤ 9223372036854775807) (h0 : lo ≤ 0) (h1 : 0 ≤ hi) :
    Calls Try.prog 30 #[.pointer (some ⟨m, 0, none⟩), .slice aq q.length capq] w1 fun e w' => ∃ m', e = .returned (.pointer (some ⟨m', 0, none⟩)) ∧ w'.cell? ⟨x, 1, none⟩ = some (.pointer (some ⟨m, 0, none⟩)) ∧ w'.frozen? ⟨x, 1, none⟩ = false ∧ St w F x d m' A act lo hi D (E.crash q) (w'.setCell ⟨x, 1, none⟩ (.pointer (some ⟨m', 0, none⟩))) := by
  obtain ⟨c, s', p, q', lf, hd, l1, l2, hS, hA⟩ := h.desk
  refine (rcrash_any m q' lf E aq capq q w1 hd.rf hok hq hql (by have := hfit.pend; omega)).mono ?_
  rintro e w2 ⟨m', rfl, h2, hf, hs⟩
  obtain ⟨K, F1, S1⟩ := hd.ref_new h2 hf (fun k hk => by
    rcases hk with rfl | hk
    · exact hs
    · exact absurd hk Blk.nil)
  have hd2 := hd.still hf
  exact ⟨m', rfl, (cells2 hd2.obj).2.1, (cells2 hd2.obj).2.2.2, h.turn hd hA hS K F1 S1 h0 h1⟩

set_option maxRecDepth 100000 in
set_option maxHeartbeats 4000000 in
theorem do_crash (x d m : Nat) (c s p q : Value) (lf lo hi : Int) (D : Dk) (n : Nat) (kind off nn : Int) (t : ByteArray) (w : World) (h : DeskR w x d m c s p q lf D D) (hok : D.Ok) (hfit : D.Fit n) (hn : n ≤ 1099511627776) (hl : lo ≤ lf) (hl2 : lf ≤ hi) (hl3 : lo ≤ 0) (hl4 : 0 ≤ hi)
    (hk : kind % 8 = 7) (hk1 : -9223372036854775808 ≤ kind) (hk2 : kind ≤ 9223372036854775807) (hn1 : -9223372036854775808 ≤ nn) (hn2 : nn ≤ 9223372036854775807) :
    Calls Try.prog 22 #[.pointer (some ⟨x, 0, none⟩), .agg #[.int .i64 kind, .int .i64 off, .int .i64 nn, .string t]] w fun e w' => e = .returned (.bool true) ∧ ∃ d' m', St w (DsF x d m c s p q) x d' m' w.heap.size #[.int .i64 kind, .int .i64 off, .int .i64 nn, .string t] lo hi (D.crash (survQ nn)) (D.crash (survQ nn)) w' := by
  have st0 : St w (DsF x d m c s p q) x d m w.heap.size #[.int .i64 kind, .int .i64 off, .int .i64 nn, .string t] lo hi D D (w.alloc (.cells #[.int .i64 kind, .int .i64 off, .int .i64 nn, .string t] 33)) := by
    have st := (St.start h #[.int .i64 kind, .int .i64 off, .int .i64 nn, .string t])
    obtain ⟨c', s', p', q', lf', h1, h2, h3, h4⟩ := st.desk
    exact ⟨⟨c', s', p', q', lf', h1, by omega, by omega, h4⟩, st.act, st.frm, st.old⟩
  have st1 := st0.still ((Frm.refl (fun _ => False) _).drew)
  have a0 := st0.cells.2.2.1
  have hql : (survQ nn).length ≤ 9223372036854775807 := by
    have : (survQ nn).length ≤ 5 := by unfold survQ; rw [List.length_take]; simp; omega
    omega
  have hS : ∀ (d' m' : Nat) (D' E' : Dk) (w0 : World), St w (DsF x d m c s p q) x d' m' w.heap.size #[.int .i64 kind, .int .i64 off, .int .i64 nn, .string t] lo hi D' E' w0 → Calls Try.prog 31 #[.int .i64 nn] w0 fun e w' => ∃ aq capq, e = .returned (.slice aq (survQ nn).length capq) ∧ IntsAt w' aq (survQ nn) ∧ St w (DsF x d m c s p q) x d' m' w.heap.size #[.int .i64 kind, .int .i64 off, .int .i64 nn, .string t] lo hi D' E' w' := by
    intro d' m' D' E' w0 h0
    refine (survive_any nn w0 hn1 hn2).mono ?_
    rintro e w1 ⟨aq, capq, rfl, hi, hf⟩
    exact ⟨aq, capq, rfl, hi, h0.still hf⟩
  have HS := Lib.hid hS
  clear h st0 hS
  go_enter Try.func22, Try.ntmps22
  go_upto_region 12 with (go_at_call 28; refine (mod_any kind 8 _ (by omega) (by omega) hk1 hk2).mono ?_; rintro e w' ⟨rfl, rfl⟩)
  go_cut [] (fun wx => ∃ d', St w (DsF x d m c s p q) x d' m w.heap.size #[.int .i64 kind, .int .i64 off, .int .i64 nn, .string t] lo hi (D.crash (survQ nn)) D wx)
  case first =>
    obtain ⟨b0, -, -, -, b2, -⟩ := st1.cells
    go_region_with (first
      | (go_at_call 31; refine (HS.out d m D D _ (by assumption)).mono ?_; rintro e w1 ⟨aq, capq, rfl, hi, st2⟩; have ⟨k0, _, _, _, k2, _⟩ := st2.cells)
      | (go_at_call 29; refine (crash_st (by assumption) n _ _ _ hok hfit hn (by assumption) hql).mono ?_; rintro e w2 ⟨d', rfl, g0, g1, st3⟩))
    all_goals
      go_wp2_with fail
      go_meet
      exact ⟨d', st3⟩
  case rest =>
    obtain ⟨d', st4⟩ := hcut
    have st5 := st4.still ((Frm.refl (fun _ => False) _).drew)
    obtain ⟨-, b0, -, -, b2, -⟩ := st5.cells
    clear st1
    go_upto_region 13 with fail
    go_cut [] (fun wx => ∃ m', St w (DsF x d m c s p q) x d' m' w.heap.size #[.int .i64 kind, .int .i64 off, .int .i64 nn, .string t] lo hi (D.crash (survQ nn)) (D.crash (survQ nn)) wx)
    case first =>
      clear st4
      go_region_with (first
        | (go_at_call 31; refine (HS.out d' m (D.crash (survQ nn)) D _ (by assumption)).mono ?_; rintro e w1 ⟨aq, capq, rfl, hi, st2⟩; have ⟨_, k0, _, _, k2, _⟩ := st2.cells)
        | (go_at_call 30; refine (rcrash_st (by assumption) n _ _ _ hok hfit hn (by assumption) hql hl3 hl4).mono ?_; rintro e w2 ⟨m', rfl, g0, g1, st3⟩))
      all_goals
        go_wp2_with fail
        go_meet
        exact ⟨m', st3⟩
    case rest =>
      obtain ⟨m', st6⟩ := hcut
      obtain ⟨k0, -⟩ := st6.cells
      clear st5 b0 b2
      go_wp2
      go_ret
      exact ⟨rfl, d', m', st6⟩

/-- What an act makes of a disk. -/
def Dk.act (D : Dk) (kind off nn : Int) (t : List UInt8) : Dk :=
  if kind % 8 = 4 then D.sync.2 else if kind % 8 = 5 then D else if kind % 8 = 6 then D.fail (nn % 9 - 1) else if kind % 8 = 7 then D.crash (survQ nn) else (D.write (whereI off) (longL nn t)).2

/-- A desk whose disk and reference agree; w: the world that it began in. -/
structure Desk (w : World) (x : Nat) (n : Nat) (D : Dk) (w' : World) : Prop where
  raw : ∃ d m c s p q lf, DeskR w' x d m c s p q lf D D ∧ -(n : Int) ≤ lf ∧ lf ≤ n ∧ ∀ k, DsF x d m c s p q k → w.heap.size ≤ k
  ok : D.Ok
  fit : D.Fit n
  frm : Frm (fun _ => False) w w'
  eight : 8 ≤ n

theorem Desk.still {w w1 w2 : World} {x n : Nat} {D : Dk} (h : Desk w x n D w1) (hf : Frm (fun _ => False) w1 w2) : Desk w x n D w2 := by
  obtain ⟨d, m, c, s, p, q, lf, hd, r⟩ := h.raw
  exact ⟨⟨d, m, c, s, p, q, lf, hd.still hf, r⟩, h.ok, h.fit, h.frm.trans hf, h.eight⟩

/-- From where an act stands at its end back to the desk. -/
theorem Desk.of_st {w w1 w2 : World} {x d m d' m' A n n' : Nat} {c s p q : Value} {lo hi : Int} {act : Array Value} {D D' : Dk} (h : Desk w x n D w1) (hF : ∀ k, DsF x d m c s p q k → w.heap.size ≤ k) (st : St w1 (DsF x d m c s p q) x d' m' A act lo hi D' D' w2)
    (hok : D'.Ok) (hfit : D'.Fit n') (h1 : -(n' : Int) ≤ lo) (h2 : hi ≤ n') (hn : n ≤ n') : Desk w x n' D' w2 := by
  obtain ⟨c', s', p', q', lf', hd, l1, l2, hS, -⟩ := st.desk
  refine ⟨⟨d', m', c', s', p', q', lf', hd, by omega, by omega, fun k hk => ?_⟩, hok, hfit, h.frm.trans' st.frm fun k hk => .inr (hF k hk), Nat.le_trans h.eight hn⟩
  rcases hS k hk with e | e
  · exact hF k e
  · exact Nat.le_trans h.frm.size e

theorem do_any (w : World) (x n : Nat) (D : Dk) (kind off nn : Int) (t : ByteArray) (w1 : World) (h : Desk w x n D w1) (hn : n + 201 ≤ 1099511627776) (hk1 : -9223372036854775808 ≤ kind) (hk2 : kind ≤ 9223372036854775807) (ho1 : -9223372036854775808 ≤ off) (ho2 : off ≤ 9223372036854775807) (hn1 : -9223372036854775808 ≤ nn) (hn2 : nn ≤ 9223372036854775807) (ht : t.size ≤ 9223372036854775807) :
    Calls Try.prog 22 #[.pointer (some ⟨x, 0, none⟩), .agg #[.int .i64 kind, .int .i64 off, .int .i64 nn, .string t]] w1 fun e w' => e = .returned (.bool true) ∧ Desk w x (n + 201) (D.act kind off nn t.data.toList) w' := by
  obtain ⟨d, m, c, s, p, q, lf, hd, l1, l2, hF⟩ := h.raw
  have h8 := h.eight
  unfold Dk.act
  by_cases h4 : kind % 8 = 4
  · rw [if_pos h4]
    refine (do_sync x d m c s p q lf D n kind off nn t w1 hd h.ok h.fit (by omega) l1 l2 h4 hk1 hk2).mono ?_
    rintro e w2 ⟨rfl, s2, p2, q2, lf2, hd2, l3, l4, hf, hs⟩
    refine ⟨rfl, ⟨d, m, c, s2, p2, q2, lf2, hd2, by omega, by omega, fun k hk => ?_⟩, Dk.ok_sync h.ok, (h.fit.sync).mono (by omega), h.frm.trans' hf fun k hk => .inr (hF k hk), by omega⟩
    exact (hs k hk).elim (hF k) (Nat.le_trans h.frm.size)
  · rw [if_neg h4]
    by_cases h5 : kind % 8 = 5
    · rw [if_pos h5]
      refine (do_read x d m c s p q lf D kind off nn t w1 hd h.ok h5 hk1 hk2 ho1 ho2 hn2).mono ?_
      rintro e w2 ⟨rfl, st⟩
      exact ⟨rfl, h.of_st hF st h.ok (h.fit.mono (by omega)) (by omega) (by omega) (by omega)⟩
    · rw [if_neg h5]
      by_cases h6 : kind % 8 = 6
      · rw [if_pos h6]
        refine (do_fail x d m c s p q lf D kind off nn t w1 hd h6 hk1 hk2 hn1 hn2).mono ?_
        rintro e w2 ⟨rfl, hd2, hf⟩
        have b0 : 0 ≤ nn % 9 := Int.emod_nonneg _ (by omega)
        have b1 : nn % 9 < 9 := Int.emod_lt_of_pos _ (by omega)
        exact ⟨rfl, ⟨d, m, c, s, p, q, _, hd2, by omega, by omega, hF⟩, Dk.ok_fail h.ok _, (h.fit.fail _ (by omega)).mono (by omega), h.frm.trans' hf fun k hk => .inr (hF k hk), by omega⟩
      · rw [if_neg h6]
        by_cases h7 : kind % 8 = 7
        · rw [if_pos h7]
          refine (do_crash x d m c s p q lf (-(n : Int)) n D n kind off nn t w1 hd h.ok h.fit (by omega) l1 l2 (by omega) (by omega) h7 hk1 hk2 hn1 hn2).mono ?_
          rintro e w2 ⟨rfl, d', m', st⟩
          exact ⟨rfl, h.of_st hF st (Dk.ok_crash h.ok _) (Dk.Fit.crash _) (by omega) (by omega) (by omega)⟩
        · rw [if_neg h7]
          refine (do_write x d m c s p q lf D n kind off nn t w1 hd h.ok h.fit (by omega) l1 l2 h4 h5 h6 h7 hk1 hk2 ho1 ho2 hn1 hn2 ht).mono ?_
          rintro e w2 ⟨rfl, st⟩
          have hL := longL_length nn t.data.toList
          exact ⟨rfl, h.of_st hF st (Dk.ok_write h.ok _ _) ((h.fit.write _ _).mono (by omega)) (by omega) (by omega) (by omega)⟩
end Go.Proofs.Ytehdjajeonemoaa
