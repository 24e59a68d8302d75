/-
  Sync: what it makes of a disk. Conditions: the number of calls lies below 2^40.
-/
import Derived.Test.YtehdjajeonemoaaWrite
namespace Go.Proofs.Ytehdjajeonemoaa
open Go.RowKit

theorem pieceCells_get : ∀ (ps : List (Nat × List UInt8)) (k : Nat) (h : k < ps.length), (pieceCells ps)[k * 2]? = some (.int .i64 (ps[k]'h).1) ∧ (pieceCells ps)[k * 2 + 1]? = some (.string ⟨(ps[k]'h).2.toArray⟩)
  | [], k, h => by simp at h
  | p :: ps, 0, _ => by simp [pieceCells]
  | p :: ps, k + 1, h => by
    have := pieceCells_get ps k (by simpa using h)
    have e1 : (k + 1) * 2 = k * 2 + 1 + 1 := by omega
    have e2 : (k + 1) * 2 + 1 = k * 2 + 1 + 1 + 1 := by omega
    rw [e1]
    simpa [pieceCells] using this

/-- A piece in the row of a disk. -/
theorem DiskR.piece {w : World} {d : Nat} {c s : Value} {ao : Option Addr} {n cap : Nat} {D : Dk} (h : DiskR w d c s (.slice ao n cap) D) {k : Nat} (hk : k < D.pend.length) :
    ∃ g, ao = some ⟨g, 0, none⟩ ∧ w.cell? ⟨g, k * 2, none⟩ = some (.int .i64 (D.pend[k]'hk).1) ∧ w.cell? ⟨g, k * 2 + 1, none⟩ = some (.string ⟨(D.pend[k]'hk).2.toArray⟩) := by
  have hb := h.bp
  rcases hb.2 with ⟨hv, h0⟩ | ⟨g, cap', cur, hv, hx⟩
  · omega
  · have hn : n = D.pend.length := by injection hv
    subst hn
    obtain ⟨rfl, _⟩ : ao = some ⟨g, 0, none⟩ ∧ cap = cap' := by injection hv with a b c; exact ⟨a, c⟩
    have := pieceCells_get D.pend k hk
    exact ⟨g, rfl, (hb.cellAt (k * 2) (by omega)).trans this.1, (hb.cellAt (k * 2 + 1) (by omega)).trans this.2⟩
theorem DiskR.pvalue {w : World} {d : Nat} {c s p : Value} {D : Dk} (h : DiskR w d c s p D) : ∃ ao cap, p = .slice ao D.pend.length cap := by
  rcases h.bp.2 with ⟨rfl, h0⟩ | ⟨g, cap', cur, rfl, hx⟩
  · rw [h0]; exact ⟨_, _, rfl⟩
  · exact ⟨_, _, rfl⟩

theorem allL_take_succ (ps : List (Nat × List UInt8)) (k : Nat) (h : k < ps.length) (c : List UInt8) : allL (ps.take (k + 1)) c = putL (allL (ps.take k) c) (ps[k]'h).1 (ps[k]'h).2 := by
  rw [List.take_succ_eq_append_getElem h, allL_append]
  rfl

/-- New synced contents are stored. -/
theorem DiskR.store_synced {w w1 : World} {d : Nat} {c s p v : Value} {D : Dk} {n : List UInt8} (h : DiskR w d c s p D) (hf : Frm (Blk s) w w1) (hb : Bts w1 5 v n) (hs : ∀ k, Blk v k → Blk s k ∨ w.heap.size ≤ k) :
    DiskR (w1.setCell ⟨d, 1, none⟩ v) d c v p { D with synced := n } ∧ Frm (DkF d c s p) w (w1.setCell ⟨d, 1, none⟩ v) ∧ Sub w (DkF d c s p) (DkF d c v p) := by
  have hd : ¬ Blk v d := fun e => (hs d e).elim h.sd (by have := h.lt; omega)
  have h1 : Frm (fun k => k = d) w1 (w1.setCell ⟨d, 1, none⟩ v) := (Frm.refl (fun k => k = d) _).setCell (.inl rfl) _
  refine ⟨{ obj := heap_set (hf.heap h.obj h.sd) v, bs := hb.frm h1 (fun k hk e => by subst e; exact hd hk), bc := ?_, bp := ?_, sd := hd, cd := h.cd, pd := h.pd, cs := ?_, sp := ?_, cp := h.cp }, ?_, ?_⟩
  · exact (h.bc.frm hf (fun k hk e => h.cs k hk e)).frm h1 (fun k hk e => by subst e; exact h.cd hk)
  · exact ownsRow_frm (ownsRow_frm h.bp hf (fun k hk e => h.sp k e hk)) h1 (fun k hk e => by subst e; exact h.pd hk)
  · intro k hk hk2
    rcases hs k hk2 with e | e
    · exact h.cs k hk e
    · have := h.bc.lt hk; omega
  · intro k hk hk2
    rcases hs k hk with e | e
    · exact h.sp k e hk2
    · have := (World.ownsRow.lt h.bp k hk2).2; omega
  · exact (hf.mono fun k hk => .inr (.inr (.inl hk))).setCell (.inl (.inl rfl)) _
  · rintro k (hk | hk | hk | hk)
    · exact .inl (.inl hk)
    · exact .inl (.inr (.inl hk))
    · exact (hs k hk).elim (fun e => .inl (.inr (.inr (.inl e)))) .inr
    · exact .inl (.inr (.inr (.inr hk)))

theorem sync_nil (w : World) : Calls Try.prog 34 #[.pointer none] w fun e w' => e = .returned (.int .i64 1) ∧ w = w' := by
  go_enter Try.func34, Try.ntmps34
  go_wp2
  go_ret
  exact ⟨rfl, rfl⟩

theorem sync_off (d : Nat) (c s' p : Value) (D : Dk) (w : World) (hR : DiskR w d c s' p D) (hoff : D.off = true) :
    Calls Try.prog 34 #[.pointer (some ⟨d, 0, none⟩)] w fun e w' => e = .returned (.int .i64 70) ∧ w = w' := by
  have hobj := hR.obj
  have e : offB D.limited D.left = true := hoff
  clear hR hoff
  go_enter Try.func34, Try.ntmps34
  go_wp2_with fail
  refine (off_any _ _ _ _ _ _ _ _ hobj).mono ?_
  rintro e w' ⟨rfl, rfl⟩
  rw [e]
  go_wp2
  go_ret
  exact ⟨rfl, rfl⟩

set_option maxRecDepth 100000 in
set_option maxHeartbeats 1000000 in
theorem sync_ok (d : Nat) (c s' p : Value) (D : Dk) (w : World) (hR : DiskR w d c s' p D) (hok : D.Ok) (hoff : D.off = false) (hc : D.calls ≤ 1099511627776) (hp : D.pend.length ≤ 1099511627776) (hl : D.left ≤ 1099511627776) :
    Calls Try.prog 34 #[.pointer (some ⟨d, 0, none⟩)] w fun e w' => e = .returned (.int .i64 0) ∧ ∃ s2 p2, DiskR w' d c s2 p2 D.sync.2 ∧ Frm (DkF d c s' p) w w' ∧ Sub w (DkF d c s' p) (DkF d c s2 p2) := by
  have hobj := hR.obj
  have e0 : offB D.limited D.left = false := hoff
  obtain ⟨aop, capp, rfl⟩ := hR.pvalue
  obtain ⟨aoc, capc, rfl, -⟩ := hR.bc.slice
  go_enter Try.func34, Try.ntmps34
  go_wp2_with fail
  refine (off_any _ _ _ _ _ _ _ _ hobj).mono ?_
  rintro e w' ⟨rfl, rfl⟩
  rw [e0]
  obtain ⟨c0, c1, c2, c3, c4, c5, f0, f1, f2, f3, f4, f5⟩ := cells6 hobj
  clear hobj
  have HR := Lib.hid hR
  clear hR
  go_wp2_with fail
  clear c0 c1 c2 c3 c4 c5 f0 f1 f2 f3 f4 f5
  go_loopw [15] (fun si wr => ∃ (k : Nat) (sv : Value), si = .int .i64 k ∧ k ≤ D.pend.length ∧
      DiskR wr d (.slice aoc D.now.length capc) sv (.slice aop D.pend.length capp) { D with synced := allL (D.pend.take k) D.synced } ∧ Frm (DkF d (.slice aoc D.now.length capc) s' (.slice aop D.pend.length capp)) w wr ∧ Sub w (DkF d (.slice aoc D.now.length capc) s' (.slice aop D.pend.length capp)) (DkF d (.slice aoc D.now.length capc) sv (.slice aop D.pend.length capp))) (fun i _ => D.pend.length - (intOf i).toNat)
  case atStart => exact ⟨0, s', rfl, Nat.zero_le _, HR.out, Frm.refl _ _, Sub.refl _ _⟩
  case round =>
    obtain ⟨k, sv, rfl, hk, hR, hF, hS⟩ := hrel
    by_cases hlt : k < D.pend.length
    · obtain ⟨g, rfl, hg0, hg1⟩ := hR.piece hlt
      obtain ⟨c0, c1, c2, c3, c4, c5, f0, f1, f2, f3, f4, f5⟩ := cells6 hR.obj
      have hd := hR.lt
      have hA : (allL (D.pend.take k) D.synced).length ≤ 16777216 := allL_length_le _ _ _ hok.syn fun x hx => hok.pie x (List.mem_of_mem_take hx)
      have hpk : (D.pend[k].1 : Int) + ((⟨D.pend[k].2.toArray⟩ : ByteArray).size : Int) ≤ 16777216 := by
        have := hok.pie D.pend[k] (List.getElem_mem hlt)
        have e : (⟨D.pend[k].2.toArray⟩ : ByteArray).size = D.pend[k].2.length := List.size_toArray
        rw [e]
        omega
      have Hpk := Lib.hid hpk
      have HA := Lib.hid hA
      clear hpk hA
      have hR3 := hR.frm (Frm.drew (Frm.alloc (Frm.refl (fun _ => False) wr) (Obj.cells #[Value.int IntKind.i64 ↑D.pend[k].fst, Value.string { data := D.pend[k].snd.toArray }] 89))) (fun _ _ h => h)
      have fin : ∀ (w1 : World) (v1 : Value), Bts w1 5 v1 (putL (allL (D.pend.take k) D.synced) ((D.pend[k].1 : Int)).toNat (⟨D.pend[k].2.toArray⟩ : ByteArray).data.toList) →
          Frm (Blk sv) ((wr.alloc (Obj.cells #[Value.int IntKind.i64 ↑D.pend[k].fst, Value.string { data := D.pend[k].snd.toArray }] 89)).drew) w1 →
          (∀ j, Blk v1 j → Blk sv j ∨ ((wr.alloc (Obj.cells #[Value.int IntKind.i64 ↑D.pend[k].fst, Value.string { data := D.pend[k].snd.toArray }] 89)).drew).heap.size ≤ j) →
          ∃ (k' : Nat) (sv' : Value), Value.int .i64 ((k + 1 : Nat) : Int) = .int .i64 k' ∧ k' ≤ D.pend.length ∧
            DiskR (w1.setCell ⟨d, 1, none⟩ v1) d (.slice aoc D.now.length capc) sv' (.slice (some ⟨g, 0, none⟩) D.pend.length capp) { D with synced := allL (D.pend.take k') D.synced } ∧ Frm (DkF d (.slice aoc D.now.length capc) s' (.slice (some ⟨g, 0, none⟩) D.pend.length capp)) w (w1.setCell ⟨d, 1, none⟩ v1) ∧
            Sub w (DkF d (.slice aoc D.now.length capc) s' (.slice (some ⟨g, 0, none⟩) D.pend.length capp)) (DkF d (.slice aoc D.now.length capc) sv' (.slice (some ⟨g, 0, none⟩) D.pend.length capp)) := by
        intro w1 v1 hb1 hf1 hs1
        obtain ⟨R, F, S⟩ := hR3.store_synced hf1 hb1 hs1
        refine ⟨k + 1, v1, rfl, hlt, ?_, ?_, ?_⟩
        · rw [allL_take_succ D.pend k hlt]
          simpa using R
        · exact ((hF.alloc _).drew).trans' F hS
        · exact hS.trans S (Nat.le_trans hF.size (by simp))
      have HR2 := Lib.hid hR
      have HR3 := Lib.hid hR3
      have Fin := Lib.hid fin
      clear fin
      have HF := Lib.hid hF
      have HS := Lib.hid hS
      clear hR hF hS hR3
      go_wp2_with fail
      go_region_with (go_at_call 52; refine (put_any sv _ _ _ ((wr.alloc (Obj.cells #[Value.int IntKind.i64 ↑D.pend[k].fst, Value.string { data := D.pend[k].snd.toArray }] 89)).drew) (Int.natCast_nonneg _) Hpk.out HA.out HR3.out.bs).mono ?_; rintro e w1 ⟨v1, rfl, hb1, hf1, hs1⟩; obtain ⟨ao1, cap1, rfl, -⟩ := hb1.slice; have g1 := (cells6 (hf1.heap HR3.out.obj HR3.out.sd)).2.1; have q1 := (cells6 (hf1.heap HR3.out.obj HR3.out.sd)).2.2.2.2.2.2.2.1; have P := Lib.hid (And.intro hb1 (And.intro hf1 hs1)); clear hb1 hf1 hs1)
      all_goals
        go_wp2
        go_roundw
        case rel => exact Fin.out w1 _ P.out.1 P.out.2.1 P.out.2.2
        case measure => simp [intOf]; omega
    · obtain rfl : k = D.pend.length := by omega
      obtain ⟨c0, c1, c2, c3, c4, c5, f0, f1, f2, f3, f4, f5⟩ := cells6 hR.obj
      have hd := hR.lt
      have hnl := hok.len
      have hA : (allL D.pend D.synced).length ≤ 16777216 := allL_length_le _ _ _ hok.syn hok.pie
      have hl2 : D.limited = true → 1 ≤ D.left := by
        intro hh
        have : (D.left == 0) = false := by simpa [offB, hh] using e0
        simp at this
        omega
      have hR1 : DiskR wr d (.slice aoc D.now.length capc) sv (.slice aop D.pend.length capp) { D with synced := allL D.pend D.synced } := by simpa using hR
      have hR3 := hR1.frm (Frm.drew (Frm.refl (fun _ => False) wr)) (fun _ _ h => h)
      have HR3 := Lib.hid hR3
      have HA := Lib.hid hA
      have Hnl := Lib.hid hnl
      have HF := Lib.hid hF
      have HS := Lib.hid hS
      have Hl2 := Lib.hid hl2
      have hempty : (D.now.length : Int) + ((⟨#[]⟩ : ByteArray).size : Int) ≤ 16777216 := by
        have : (⟨#[]⟩ : ByteArray).size = 0 := rfl
        omega
      have Hempty := Lib.hid hempty
      clear hR hR1 hF hS hR3 hA hnl hl2 hempty
      go_wp2_with fail
      go_region_with (go_at_call 52; refine (put_any sv _ _ _ wr.drew (Int.natCast_nonneg _) Hempty.out HA.out HR3.out.bs).mono ?_; rintro e w1 ⟨v1, rfl, hb1, hf1, hs1⟩; obtain ⟨ao1, cap1, rfl, -⟩ := hb1.slice; have g1 := (cells6 (hf1.heap HR3.out.obj HR3.out.sd)).2.1; have q1 := (cells6 (hf1.heap HR3.out.obj HR3.out.sd)).2.2.2.2.2.2.2.1; have P := Lib.hid (HR3.out.store_synced hf1 hb1 hs1); clear hb1 hf1 hs1)
      all_goals
        obtain ⟨R1, F1, S1⟩ := P.out
        go_wp2_with fail
        refine (clear_any d _ _ _ _ _ _ _ R1.obj).mono ?_
        rintro e w2 ⟨rfl, ho2, hf2⟩
        obtain ⟨R2, F2, S2⟩ := R1.store_pend (ps := []) ho2 (hf2.mono fun k hk => .inl hk) (World.ownsRow_nil _ _ _ _) (fun k hk => absurd hk Blk.nil)
        have P2 := Lib.hid (And.intro R1 (And.intro F1 (And.intro S1 (And.intro F2 S2))))
        clear R1 F1 S1 F2 S2 ho2 hf2
        go_wp2_with fail
        refine (count_any d _ _ _ D.calls D.limited D.left _ R2.obj (by omega) Hl2.out (by omega)).mono ?_
        rintro e w3 ⟨rfl, ho3, hf3⟩
        go_wp2
        go_ret
        have hsy : D.sync.2 = { D.count with synced := D.now, pend := [] } := by
          unfold Dk.sync
          rw [if_neg (by rw [hoff]; simp)]
        have hnow : putL (allL D.pend D.synced) ((D.now.length : Int)).toNat (⟨#[]⟩ : ByteArray).data.toList = D.now := by
          simpa using hok.now
        obtain ⟨-, F1, S1, F2, S2⟩ := P2.out
        refine ⟨rfl, _, _, ?_, ((HF.out.drew).trans' F1 HS.out).trans' (F2.trans' (hf3.mono fun k hk => (.inl hk : DkF d _ _ _ k)) S2) (HS.out.trans S1 HF.out.size), HS.out.trans (S1.trans S2 F1.size) HF.out.size⟩
        have e2 : D.sync.2 = { D.count with synced := putL (allL D.pend D.synced) ((D.now.length : Int)).toNat (⟨#[]⟩ : ByteArray).data.toList, pend := [] } := by rw [hsy, hnow]
        rw [e2]
        exact R2.renew (D' := { D.count with synced := putL (allL D.pend D.synced) ((D.now.length : Int)).toNat (⟨#[]⟩ : ByteArray).data.toList, pend := [] }) hf3 ho3 rfl rfl rfl
end Go.Proofs.Ytehdjajeonemoaa
