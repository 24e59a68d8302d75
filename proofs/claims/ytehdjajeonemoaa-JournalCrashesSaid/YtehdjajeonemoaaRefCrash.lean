/-
  The reference's Crash. Conditions: the numbers of survivors and of pieces lie below 2^40.
-/
import Derived.Test.YtehdjajeonemoaaRefWrite
import Derived.Deep.RegionHeld3
namespace Go.Proofs.Ytehdjajeonemoaa
open Go.RowKit

/-- A piece in the row of a reference disk. -/
theorem RefR.piece {w : World} {m : Nat} {ao : Option Addr} {n cap : Nat} {lf : Int} {D : Dk} (h : RefR w m (.slice ao n cap) lf D) {k : Nat} (hk : k < D.pend.length) :
    ∃ g, ao = some ⟨g, 0, none⟩ ∧ w.cell? ⟨g, k * 2, none⟩ = some (.int .i64 (D.pend[k]'hk).1) ∧ w.cell? ⟨g, k * 2 + 1, none⟩ = some (.string ⟨(D.pend[k]'hk).2.toArray⟩) := by
  have hb := h.bp
  rcases hb.2 with ⟨hv, h0⟩ | ⟨g, cap', cur, hv, hx⟩
  · omega
  · have hn : n = D.pend.length := by injection hv
    subst hn
    obtain ⟨rfl, _⟩ : ao = some ⟨g, 0, none⟩ ∧ cap = cap' := by injection hv with a b c; exact ⟨a, c⟩
    have := pieceCells_get D.pend k hk
    exact ⟨g, rfl, (hb.cellAt (k * 2) (by omega)).trans this.1, (hb.cellAt (k * 2 + 1) (by omega)).trans this.2⟩
theorem RefR.pvalue {w : World} {m : Nat} {p : Value} {lf : Int} {D : Dk} (h : RefR w m p lf D) : ∃ ao cap, p = .slice ao D.pend.length cap := by
  rcases h.bp.2 with ⟨rfl, h0⟩ | ⟨g, cap', cur, rfl, hx⟩
  · rw [h0]; exact ⟨_, _, rfl⟩
  · exact ⟨_, _, rfl⟩

set_option maxRecDepth 100000 in
set_option maxHeartbeats 2000000 in
theorem rcrash_any (m : Nat) (p : Value) (lf : Int) (D : Dk) (aq : Option Addr) (capq : Nat) (q : List Int) (w : World) (hR : RefR w m p lf D) (hok : D.Ok) (hq : IntsAt w aq q) (hql : q.length ≤ 9223372036854775807) (hp : D.pend.length ≤ 1099511627776) :
    Calls Try.prog 30 #[.pointer (some ⟨m, 0, none⟩), .slice aq q.length capq] w fun e w' => ∃ m2, e = .returned (.pointer (some ⟨m2, 0, none⟩)) ∧ RefR w' m2 (.slice none 0 0) 0 (D.crash q) ∧ Frm (fun _ => False) w w' ∧ w.heap.size ≤ m2 := by
  obtain ⟨aop, capp, rfl⟩ := hR.pvalue
  obtain ⟨-, c1, -⟩ := cells6 hR.obj
  unfold strV at c1
  have HR := Lib.hid hR
  have Hq := Lib.hid hq
  clear hR hq
  go_enter Try.func30, Try.ntmps30
  go_wp2_with fail
  clear c1
  go_loopw [5, 6] (fun sc si wr => ∃ (k : Nat) (cc : ByteArray), sc = .string cc ∧ si = .int .i64 k ∧ k ≤ D.pend.length ∧ Hid (cc.data.toList = if q.length = 0 then D.synced else survL q 0 (D.pend.take k) D.synced) ∧ Frm (fun _ => False) w wr) (fun _ i _ => D.pend.length - (intOf i).toNat)
  case atStart => exact ⟨0, _, rfl, rfl, Nat.zero_le _, (by show _ = _; split <;> rfl), Frm.refl _ _⟩
  case round =>
    obtain ⟨k, cc, rfl, rfl, hk, hcc, hF⟩ := hrel
    have hR := HR.out.frm hF (fun _ _ h => h)
    obtain ⟨-, -, c2, -⟩ := cells6 hR.obj
    by_cases hlk : k < D.pend.length ∧ 0 < q.length
    · obtain ⟨hlk, hlt⟩ := hlk
      obtain ⟨g, rfl, hg0, hg1⟩ := hR.piece hlk
      have hmod : k % q.length < q.length := Nat.mod_lt _ hlt
      obtain ⟨qb, qo, rfl, hqc, hq1, hq2⟩ := (Hq.out.frm hF (fun _ _ _ h => h)) (k % q.length) hmod
      obtain ⟨x, hx⟩ : ∃ x, x = q.getD (k % q.length) 0 := ⟨_, rfl⟩
      rw [← hx] at hqc hq1 hq2
      have Hx := Lib.hid hx
      clear hx hR
      have hccl : cc.data.toList.length ≤ 16777216 := by
        rw [(show _ = _ from hcc), if_neg (by omega)]
        exact survL_length_le _ _ _ _ _ hok.syn fun x hx => hok.pie x (List.mem_of_mem_take hx)
      have hpk : (D.pend[k].1 : Int) + ((⟨D.pend[k].2.toArray⟩ : ByteArray).size : Int) ≤ 16777216 := by
        have := hok.pie D.pend[k] (List.getElem_mem hlk)
        have e : (⟨D.pend[k].2.toArray⟩ : ByteArray).size = D.pend[k].2.length := List.size_toArray
        rw [e]
        omega
      have fin1 : x.tmod 2 ≠ 0 → ∀ l, l = putL cc.data.toList ((D.pend[k].1 : Int)).toNat (⟨D.pend[k].2.toArray⟩ : ByteArray).data.toList → Hid (l = if q.length = 0 then D.synced else survL q 0 (D.pend.take (k + 1)) D.synced) := by
        intro hx1 l hl
        show _ = _
        rw [hl, if_neg (by omega), survL_take_succ q D.pend k hlk, ← (show x = _ from Hx), if_pos hx1, (show _ = _ from hcc), if_neg (by omega)]
        simp
      have fin0 : x.tmod 2 = 0 → Hid (cc.data.toList = if q.length = 0 then D.synced else survL q 0 (D.pend.take (k + 1)) D.synced) := by
        intro hx1
        show _ = _
        rw [if_neg (by omega), survL_take_succ q D.pend k hlk, ← (show x = _ from Hx), if_neg (by simp [hx1]), (show _ = _ from hcc), if_neg (by omega)]
      have hccs : cc.size ≤ 16777216 := by rw [← size_toList]; exact hccl
      have Hpk := Lib.hid hpk
      have Fin1 := Lib.hid fin1
      have Fin0 := Lib.hid fin0
      clear hpk fin1 fin0 hccl
      have hb0 : (k : Int) < (D.pend.length : Int) := by omega
      have hb1 : (0 : Int) ≤ (k : Int) := by omega
      by_cases hodd : (x.tmod 2 != 0) = true
      · have hx1 : x.tmod 2 ≠ 0 := by simpa using hodd
        have Hx1 := Lib.hid hx1
        clear hx1
        go_upto_region 6 with fail
        go_region_held3 (fun w' => w'.cell? ⟨m, 2, none⟩ = some (.slice (some ⟨g, 0, none⟩) D.pend.length capp) ∧ w'.cell? ⟨g, k * 2, none⟩ = some (.int .i64 (D.pend[k].1 : Int)) ∧ w'.cell? ⟨g, k * 2 + 1, none⟩ = some (.string ⟨D.pend[k].2.toArray⟩))
          (first | exact ⟨c2, hg0, hg1⟩ | exact ⟨k1, k2, k3⟩)
          ((go_at_call 53; refine (rput_any cc _ _ wr.drew (Int.natCast_nonneg _) Hpk.out hccs).mono ?_; rintro e w2 ⟨rfl, hf2⟩; have k1 := hf2.cell c2 (fun h => h); have k2 := hf2.cell hg0 (fun h => h); have k3 := hf2.cell hg1 (fun h => h); unfold strV))
        go_wp2
        go_roundw
        case rel => exact ⟨k + 1, _, rfl, by go_num, hlk, Fin1.out Hx1.out _ (by simp), hF.trans' hf2.ofDrew (fun _ h => h.elim)⟩
        case measure => simp [intOf]; omega
      · have hev : (x.tmod 2 != 0) = false := by simpa using hodd
        have hx1 : x.tmod 2 = 0 := by simpa using hev
        have F0 := Lib.hid (Fin0.out hx1)
        clear hx1 hodd
        go_wp2
        go_roundw
        case rel => exact ⟨k + 1, cc, rfl, by go_num, hlk, F0.out, hF⟩
        case measure => simp [intOf]; omega
    · have fin : cc.data.toList = crashL D q := by
        rw [(show _ = _ from hcc)]
        unfold crashL
        by_cases h0 : q.length = 0
        · rw [if_pos h0, if_pos h0]
        · rw [if_neg h0, if_neg h0, show k = D.pend.length by omega, List.take_length]
      have hv : Value.string cc = strV (crashL D q) := by rw [strV_of, fin]
      have Hv := Lib.hid hv
      have Hlk := Lib.hid hlk
      clear hv fin hcc hR hlk
      by_cases h1 : k < D.pend.length
      · have h2 : q.length ≤ 0 := by have := Hlk.out; omega
        go_wp2_with fail
        go_ret
        refine ⟨wr.heap.size, rfl, ?_, hF.alloc _, hF.size⟩
        rw [Hv.out]
        exact ⟨heap_alloc_new wr _, World.ownsRow_nil _ _ _ _, Blk.nil, fun h => by cases h⟩
      · go_wp2_with fail
        go_ret
        refine ⟨wr.heap.size, rfl, ?_, hF.alloc _, hF.size⟩
        rw [Hv.out]
        exact ⟨heap_alloc_new wr _, World.ownsRow_nil _ _ _ _, Blk.nil, fun h => by cases h⟩
end Go.Proofs.Ytehdjajeonemoaa
