/-
  The reference's Write and Sync. Conditions: the numbers of calls and of pieces lie below 2^40.
-/
import Derived.Test.YtehdjajeonemoaaRefPut
import Derived.Deep.RegionLaw
namespace Go.Proofs.Ytehdjajeonemoaa
open Go.RowKit

theorem Try.info92 : (Try.prog.info? 92).map (fun i => (i.zero, i.size, i.bytes)) = some (some (.agg #[.int .i64 0, .string ⟨#[]⟩]), 2, 24) := by kernel_rfl

theorem RefR.renew {w w1 : World} {m : Nat} {p : Value} {lf lf' : Int} {D D' : Dk} (h : RefR w m p lf D) (hf : Frm (fun k => k = m) w w1) (hobj : w1.heap[m]? = some (.cells #[strV D'.now, strV D'.synced, p, .int .i64 D'.calls, .int .i64 lf', .bool D'.limited] 85 (0, 0)))
    (e3 : D'.pend = D.pend) (hl : D'.limited = true → lf' = D'.left) : RefR w1 m p lf' D' :=
  { obj := hobj, pd := h.pd, lim := hl
    bp := by rw [e3]; exact ownsRow_frm h.bp hf (fun k hk e => by subst e; exact h.pd hk) }

theorem RefR.store_pend {w w1 : World} {m : Nat} {p v : Value} {lf : Int} {D : Dk} {ps : List (Nat × List UInt8)} (h : RefR w m p lf D) (hobj : w1.heap[m]? = some (.cells #[strV D.now, strV D.synced, v, .int .i64 D.calls, .int .i64 lf, .bool D.limited] 85 (0, 0)))
    (hf : Frm (fun k => k = m ∨ Blk p k) w w1) (hb : w1.ownsRow 0 92 2 v ps.length (pieceCells ps)) (hs : ∀ k, Blk v k → Blk p k ∨ w.heap.size ≤ k) :
    RefR w1 m v lf { D with pend := ps } ∧ Frm (RfF m p) w w1 ∧ Sub w (RfF m p) (RfF m v) := by
  have hd : ¬ Blk v m := fun e => (hs m e).elim h.pd (by have := h.lt; omega)
  refine ⟨{ obj := hobj, bp := hb, pd := hd, lim := h.lim }, hf, ?_⟩
  rintro k (hk | hk)
  · exact .inl (.inl hk)
  · exact (hs k hk).elim (fun e => .inl (.inr e)) .inr

theorem rwrite_bad (v : Value) (off : Int) (s : ByteArray) (w : World) (h : off < 0 ∨ off > 16777216 - (s.size : Int)) (hs : s.size ≤ 4611686018427387904) (_ho : -9223372036854775808 ≤ off) :
    Calls Try.prog 38 #[v, .int .i64 off, .string s] w fun e w' => e = .returned (.int .i64 1) ∧ w = w' := by
  by_cases h0 : off < 0
  · clear h
    go_enter Try.func38, Try.ntmps38
    go_wp2
    go_ret
    exact ⟨rfl, rfl⟩
  · have h2 : 0 ≤ off := by omega
    by_cases h3 : 16777216 < off
    · clear h h0
      go_enter Try.func38, Try.ntmps38
      go_wp2
      go_ret
      exact ⟨rfl, rfl⟩
    · have h4 : 16777216 < off + (s.size : Int) := by omega
      clear h h0
      go_enter Try.func38, Try.ntmps38
      go_wp2
      go_ret
      exact ⟨rfl, rfl⟩

set_option maxRecDepth 100000 in
theorem rwrite_off (m : Nat) (p : Value) (lf : Int) (D : Dk) (off : Int) (s : ByteArray) (w : World) (hR : RefR w m p lf D) (h0 : 0 ≤ off) (h1 : off ≤ 16777216 - (s.size : Int)) (hoff : D.off = true) :
    Calls Try.prog 38 #[.pointer (some ⟨m, 0, none⟩), .int .i64 off, .string s] w fun e w' => e = .returned (.int .i64 70) ∧ w = w' := by
  have hobj := hR.obj
  have hl : D.limited = true := by unfold Dk.off at hoff; simp at hoff; exact hoff.1
  have hz : (lf == 0) = true := by
    have := hR.lim hl
    unfold Dk.off at hoff; simp at hoff
    rw [this, hoff.2]; rfl
  rw [hl] at hobj
  have h5 : off + (s.size : Int) ≤ 16777216 := by omega
  clear hR hoff hl
  go_enter Try.func38, Try.ntmps38
  go_wp2_with fail
  refine (roff_true _ _ _ _ _ _ _ hobj hz).mono ?_
  rintro e w' ⟨rfl, rfl⟩
  go_wp2
  go_ret
  exact ⟨rfl, rfl⟩

theorem lf_off {D : Dk} {lf : Int} (hoff : D.off = false) (hl : D.limited = true → lf = D.left) : (D.limited && lf == 0) = false := by
  cases hd : D.limited with
  | false => rfl
  | true =>
    have := hl hd
    unfold Dk.off at hoff
    rw [hd] at hoff
    simp at hoff ⊢
    omega
theorem lf_count {D : Dk} {lf : Int} (hoff : D.off = false) (hl : D.limited = true → lf = D.left) : D.count.limited = true → lf - 1 = D.count.left := by
  intro hd
  have hd' : D.limited = true := hd
  have := hl hd'
  unfold Dk.off at hoff
  rw [hd'] at hoff
  simp at hoff
  show lf - 1 = ((if D.limited then D.left - 1 else D.left : Nat) : Int)
  rw [if_pos hd']
  omega

set_option maxRecDepth 100000 in
set_option maxHeartbeats 2000000 in
theorem rwrite_ok (m : Nat) (p : Value) (lf : Int) (D : Dk) (off : Int) (s : ByteArray) (w : World) (hR : RefR w m p lf D) (hok : D.Ok) (h0 : 0 ≤ off) (h1 : off ≤ 16777216 - (s.size : Int)) (hoff : D.off = false) (hc : D.calls ≤ 1099511627776) (hp : D.pend.length + s.size ≤ 1099511627776) (hl : -1099511627776 ≤ lf) (hl2 : lf ≤ 1099511627776) :
    Calls Try.prog 38 #[.pointer (some ⟨m, 0, none⟩), .int .i64 off, .string s] w fun e w' => e = .returned (.int .i64 0) ∧ ∃ p2, RefR w' m p2 (lf - 1) (D.write off s.data.toList).2 ∧ Frm (RfF m p) w w' ∧ Sub w (RfF m p) (RfF m p2) := by
  obtain ⟨i0, hi, hz0, hz1, hz2⟩ := info_parts Try.info92
  have hobj := hR.obj
  have e0 := lf_off hoff hR.lim
  have e1 := lf_count hoff hR.lim
  have hnl := hok.len
  have h5 : off + (s.size : Int) ≤ 16777216 := by omega
  have HR := Lib.hid hR
  have E1 := Lib.hid e1
  have Hok := Lib.hid hok
  clear hR e1 hok
  go_enter Try.func38, Try.ntmps38
  go_wp2_with fail
  refine (roff_any _ _ _ _ _ _ _ _ hobj hc hl hl2 e0).mono ?_
  rintro e w1 ⟨rfl, ho1, hf1⟩
  have hR1 : RefR w1 m p (lf - 1) D.count := HR.out.renew hf1 ho1 rfl E1.out
  obtain ⟨c0, -, -, -, -, -, f0, -⟩ := cells6 hR1.obj
  unfold strV at c0
  clear hobj e0 ho1
  go_wp2_with fail
  refine (rput_any _ _ _ _ h0 (by omega) (by show (⟨D.now.toArray⟩ : ByteArray).size ≤ _; rw [show (⟨D.now.toArray⟩ : ByteArray).size = D.now.length from List.size_toArray]; omega)).mono ?_
  rintro e w2 ⟨rfl, hf2⟩
  have hR2 := hR1.frm hf2 (fun _ _ h => h)
  obtain ⟨c0, -, -, -, -, -, f0, -⟩ := cells6 hR2.obj
  have hR3 : ∀ n : List UInt8, RefR (w2.setCell ⟨m, 0, none⟩ (strV n)) m p (lf - 1) { D.count with now := n } := fun n =>
    { obj := heap_set hR2.obj _, pd := hR2.pd, lim := hR2.lim, bp := ownsRow_frm hR2.bp ((Frm.refl (fun k => k = m) _).setCell (.inl rfl) _) (fun k hk e => by subst e; exact hR2.pd hk) }
  have hF3 : Frm (RfF m p) w w2 := (hf1.mono fun k hk => .inl hk).trans (hf2.mono fun _ h => h.elim)
  have R3 := hR3 (putL D.count.now off.toNat s.data.toList)
  have F3 : Frm (RfF m p) w (w2.setCell ⟨m, 0, none⟩ (strV (putL D.count.now off.toNat s.data.toList))) := hF3.setCell (.inl (.inl rfl)) _
  clear hR1 hR3 hF3 hR2
  unfold strV at R3 F3 c0 ⊢
  go_wp2_with fail
  clear c0 f0 hf1 hf2
  generalize w2.setCell { block := m, off := 0 } (Value.string { data := (putL D.count.now off.toNat s.data.toList).toArray }) = W2 at R3 F3 ⊢
  have hsl := size_toList s
  go_loopw [8] (fun st wr => ∃ (t : Nat) (q : Value) (ps : List (Nat × List UInt8)), st = .int .i64 t ∧ t ≤ s.size ∧
      Hid (ps ++ cut (s.data.toList.drop t).length (off.toNat + t) (s.data.toList.drop t) = D.pend ++ cut s.data.toList.length off.toNat s.data.toList) ∧ ps.length + (s.size - t) ≤ D.pend.length + s.size ∧
      RefR wr m q (lf - 1) { D.count with now := putL D.count.now off.toNat s.data.toList, pend := ps } ∧ Frm (RfF m p) w wr ∧ Sub w (RfF m p) (RfF m q)) (fun t _ => s.size - (intOf t).toNat)
  case atStart => exact ⟨0, p, D.pend, rfl, Nat.zero_le _, (by show _ = _; simp), by omega, R3, F3, Sub.refl _ _⟩
  case round =>
    obtain ⟨t, q, ps, rfl, ht, hcut, hlen, hR, hF, hS⟩ := hrel
    clear R3 F3
    have Hsl := Lib.hid hsl
    clear hsl
    by_cases hlt : t < s.size
    · obtain ⟨-, -, c2, -, -, -, -, -, f2, -⟩ := cells6 hR.obj
      have hmd : m < wr.heap.size := hR.lt
      have hqd := hR.pd
      have hm64 := Nat.mod_lt (off.toNat + t) (show 0 < 64 by decide)
      obtain ⟨n, hn⟩ : ∃ n, n = min (s.size - t) (64 - (off.toNat + t) % 64) := ⟨_, rfl⟩
      have hn0 : 0 < n := by omega
      have hnt : t + n ≤ s.size := by omega
      have hmin : (if (s.size : Int) - t < 64 - (off + t) % 64 then (s.size : Int) - t else 64 - (off + t) % 64) = (n : Int) := by
        split <;> omega
      have hw1 : IntKind.i64.wrap (off + t) = off + t := IntWalk.i64_in _ (by omega)
      have hw2 : IntKind.i64.wrap ((t : Int) + n) = (t : Int) + n := IntWalk.i64_in _ (by omega)
      have hb1 : (t : Int) ≤ (t : Int) + n := by omega
      have hb2 : (t : Int) + n ≤ (s.size : Int) := by omega
      have hb3 : (0 : Int) ≤ (t : Int) + n := by omega
      have hb4 : (0 : Int) ≤ (t : Int) := by omega
      have Hmin := Lib.hid hmin
      have Hn := Lib.hid hn
      have HR := Lib.hid hR
      clear hmin hn hR
      go_upto_region 10 with fail
      rw [Hmin.out]
      have hrow : ((wr.alloc (Obj.cells #[Value.int IntKind.i64 (off + ↑t), Value.string (s.extract t (t + n))] 92))).drew.ownsRow 0 92 2 q ps.length (pieceCells ps) := (HR.out.bp.alloc _).drew
      have hnew : ∀ j u, [Value.int IntKind.i64 (off + ↑t), Value.string (s.extract t (t + n))][j]? = some u → (wr.alloc (Obj.cells #[Value.int IntKind.i64 (off + ↑t), Value.string (s.extract t (t + n))] 92)).drew.cell? ((⟨wr.heap.size, 0, none⟩ : Addr).add j) = some u :=
        new_cells wr #[Value.int IntKind.i64 (off + ↑t), Value.string (s.extract t (t + n))] 92 _ rfl
      have hone : ∀ u ∈ [Value.int IntKind.i64 (off + ↑t), Value.string (s.extract t (t + n))], u.oneCell' = true := by simp [Value.oneCell']
      have bd1 : (ps.length + 1) * 24 ≤ 140737488355328 := by omega
      have bd2 : ps.length + 1 ≤ maxLen := by unfold maxLen; omega
      have Hrow := Lib.hid hrow
      have Hnew := Lib.hid hnew
      have Hone := Lib.hid hone
      have Bd1 := Lib.hid bd1
      have Bd2 := Lib.hid bd2
      clear hrow hnew hone bd1 bd2
      have hF0 : Frm (fun _ => False) wr (wr.alloc (Obj.cells #[Value.int IntKind.i64 (off + ↑t), Value.string (s.extract t (t + n))] 92)).drew := ((Frm.refl _ _).alloc _).drew
      have fin : ∀ (g cap : Nat) (w3 : World), Frm (Blk q) wr w3 → w3.ownsRow 0 92 2 (.slice (some ⟨g, 0, none⟩) (ps.length + 1) cap) (ps.length + 1) (pieceCells ps ++ [Value.int IntKind.i64 (off + ↑t), Value.string (s.extract t (t + n))]) → (Blk q g ∨ wr.heap.size ≤ g) →
          ∃ (t' : Nat) (q' : Value) (ps' : List (Nat × List UInt8)), Value.int .i64 ((t + n : Nat) : Int) = .int .i64 t' ∧ t' ≤ s.size ∧
            Hid (ps' ++ cut (s.data.toList.drop t').length (off.toNat + t') (s.data.toList.drop t') = D.pend ++ cut s.data.toList.length off.toNat s.data.toList) ∧ ps'.length + (s.size - t') ≤ D.pend.length + s.size ∧
            RefR (w3.setCell ⟨m, 2, none⟩ (.slice (some ⟨g, 0, none⟩) (ps.length + 1) cap)) m q' (lf - 1) { D.count with now := putL D.count.now off.toNat s.data.toList, pend := ps' } ∧ Frm (RfF m p) w (w3.setCell ⟨m, 2, none⟩ (.slice (some ⟨g, 0, none⟩) (ps.length + 1) cap)) ∧ Sub w (RfF m p) (RfF m q') := by
        intro g cap w3 hf3 hr3 hg3
        have hgm : g ≠ m := fun e => by
          subst e
          rcases hg3 with h | h
          · exact hqd h
          · omega
        have eo : Value.int IntKind.i64 (off + (t : Int)) = .int .i64 ((off.toNat + t : Nat) : Int) := by congr 1; omega
        have es : Value.string (s.extract t (t + n)) = .string ⟨((s.data.toList.drop t).take n).toArray⟩ := by
          rw [strV_of, Lib.extract_data]
          unfold strV
          congr 4
          omega
        have hlen2 : (ps ++ [(off.toNat + t, (s.data.toList.drop t).take n)]).length = ps.length + 1 := by simp
        have hst := HR.out.store_pend (w1 := w3.setCell ⟨m, 2, none⟩ (.slice (some ⟨g, 0, none⟩) (ps.length + 1) cap)) (v := .slice (some ⟨g, 0, none⟩) (ps.length + 1) cap) (ps := ps ++ [(off.toNat + t, (s.data.toList.drop t).take n)]) (heap_set (hf3.heap HR.out.obj hqd) _)
          ((hf3.mono fun k hk => .inr hk).setCell (.inl (.inl rfl)) _) (by
            rw [hlen2, pieceCells_append]
            rw [eo, es] at hr3
            exact ownsRow_frm (F := fun k => k = m) hr3 ((Frm.refl (fun k => k = m) _).setCell (.inl rfl) _) (fun k hk e => by subst e; exact hgm (Blk.some.1 hk).symm)) (fun k hk => by obtain rfl := Blk.some.1 hk; exact hg3)
        obtain ⟨R, F, S⟩ := hst
        refine ⟨t + n, _, ps ++ [(off.toNat + t, (s.data.toList.drop t).take n)], rfl, hnt, ?_, ?_, R, hF.trans' F hS, hS.trans S hF.size⟩
        · show _ = _
          rw [← (show _ = _ from hcut)]
          have hdl : (s.data.toList.drop t).length = s.size - t := by rw [List.length_drop, Hsl.out]
          have := cut_step (s.data.toList.drop t) (off.toNat + t) (by rw [hdl]; omega)
          rw [hdl, ← (show n = _ from Hn)] at this
          rw [hdl, this]
          simp [Nat.add_assoc]
        · rw [hlen2]; omega
      have Fin := Lib.hid fin
      clear fin
      go_region_law (refine step_append_one rfl (.tmp 54) (.tmp 65) 83 rfl 92 i0 _ 2 24 Try.underlying83 hi hz0 hz1 hz2 rfl (by decide) q ps.length (pieceCells ps) rfl Hrow.out ⟨wr.heap.size, 0, none⟩ 1 _ rfl rfl Hnew.out Hone.out Bd1.out Bd2.out ?_; intro g cap w3 hrow1 hf1 hg1; have hF := (hF0.mono (G := Blk q) (fun _ h => h.elim)).trans hf1; have hc1 := hF.cell c2 hqd; have hf2 := (hF.frozen (o := 2) hmd hqd).trans f2; have Hrow1 := Lib.hid hrow1; clear hrow1)
      all_goals
        go_wp2
        go_roundw
        case rel =>
          have h := Fin.out g cap w3 hF Hrow1.out (hg1.imp id (fun h => by simp at h; omega))
          rw [Int.natCast_add] at h
          exact h
        case measure => simp [intOf]; omega
    · obtain rfl : t = s.size := by omega
      go_wp2_with fail
      go_ret
      have hw : (D.write off s.data.toList).2 = { D.count with now := putL D.count.now off.toNat s.data.toList, pend := D.pend ++ cut s.data.toList.length off.toNat s.data.toList } := by
        unfold Dk.write
        rw [if_neg (by rw [Hsl.out]; omega), if_neg (by rw [hoff]; simp)]
        rfl
      have hps : ps = D.pend ++ cut s.data.toList.length off.toNat s.data.toList := by
        rw [← (show _ = _ from hcut), cut_zero _ _ _ (by rw [List.length_drop, Hsl.out]; omega)]
        simp
      refine ⟨rfl, q, ?_, hF, hS⟩
      rw [hw, ← hps]
      exact hR

set_option maxRecDepth 100000 in
theorem rsync_off (m : Nat) (p : Value) (lf : Int) (D : Dk) (w : World) (hR : RefR w m p lf D) (hoff : D.off = true) :
    Calls Try.prog 48 #[.pointer (some ⟨m, 0, none⟩)] w fun e w' => e = .returned (.int .i64 70) ∧ w = w' := by
  have hobj := hR.obj
  have hl : D.limited = true := by unfold Dk.off at hoff; simp at hoff; exact hoff.1
  have hz : (lf == 0) = true := by
    have := hR.lim hl
    unfold Dk.off at hoff; simp at hoff
    rw [this, hoff.2]; rfl
  rw [hl] at hobj
  clear hR hoff hl
  go_enter Try.func48, Try.ntmps48
  go_wp2_with fail
  refine (roff_true _ _ _ _ _ _ _ hobj hz).mono ?_
  rintro e w' ⟨rfl, rfl⟩
  go_wp2
  go_ret
  exact ⟨rfl, rfl⟩

set_option maxRecDepth 100000 in
theorem rsync_ok (m : Nat) (p : Value) (lf : Int) (D : Dk) (w : World) (hR : RefR w m p lf D) (hoff : D.off = false) (hc : D.calls ≤ 1099511627776) (hl : -1099511627776 ≤ lf) (hl2 : lf ≤ 1099511627776) :
    Calls Try.prog 48 #[.pointer (some ⟨m, 0, none⟩)] w fun e w' => e = .returned (.int .i64 0) ∧ ∃ p2, RefR w' m p2 (lf - 1) D.sync.2 ∧ Frm (RfF m p) w w' ∧ Sub w (RfF m p) (RfF m p2) := by
  have hobj := hR.obj
  have e0 := lf_off hoff hR.lim
  have e1 := lf_count hoff hR.lim
  have HR := Lib.hid hR
  have E1 := Lib.hid e1
  clear hR e1
  go_enter Try.func48, Try.ntmps48
  go_wp2_with fail
  refine (roff_any _ _ _ _ _ _ _ _ hobj hc hl hl2 e0).mono ?_
  rintro e w1 ⟨rfl, ho1, hf1⟩
  obtain ⟨c0, c1, c2, -, -, -, f0, f1, f2, -⟩ := cells6 ho1
  have Ho1 := Lib.hid ho1
  clear hobj e0 ho1
  unfold strV at c0 c1
  go_wp2
  go_ret
  have hsy : D.sync.2 = { D.count with synced := D.now, pend := [] } := by
    unfold Dk.sync
    rw [if_neg (by rw [hoff]; simp)]
  have hF : Frm (RfF m p) w ((w1.setCell ⟨m, 1, none⟩ (strV D.now)).setCell ⟨m, 2, none⟩ (.slice none 0 0)) := ((hf1.mono fun k hk => (.inl hk : RfF m p k)).setCell (.inl (.inl rfl)) _).setCell (.inl (.inl rfl)) _
  refine ⟨rfl, .slice none 0 0, ?_, hF, ?_⟩
  · rw [hsy]
    exact { obj := heap_set (heap_set Ho1.out _) _, bp := World.ownsRow_nil _ _ _ _, pd := Blk.nil, lim := E1.out }
  · rintro k (hk | hk)
    · exact .inl (.inl hk)
    · exact absurd hk Blk.nil
end Go.Proofs.Ytehdjajeonemoaa
