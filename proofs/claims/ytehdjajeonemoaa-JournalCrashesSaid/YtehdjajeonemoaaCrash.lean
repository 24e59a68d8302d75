/-
  Crash: the disk that is left. Conditions: the numbers of survivors and of pieces lie below 2^40.
-/
import Derived.Test.YtehdjajeonemoaaSync
import Derived.Test.YtehdjajeonemoaaRead
import Derived.Deep.DeepCutAuto
namespace Go.Proofs.Ytehdjajeonemoaa
open Go.RowKit

/-- A slice of numbers that is only read. -/
def IntsAt (w : World) (ao : Option Addr) (q : List Int) : Prop := ∀ i, i < q.length → ∃ b o, ao = some ⟨b, o, none⟩ ∧ w.cell? ⟨b, o + i, none⟩ = some (.int .i64 (q.getD i 0)) ∧ -9223372036854775808 ≤ q.getD i 0 ∧ q.getD i 0 ≤ 9223372036854775807
theorem IntsAt.frm {w w' : World} {ao : Option Addr} {q : List Int} {F : Nat → Prop} (h : IntsAt w ao q) (hf : Frm F w w') (hF : ∀ b o, ao = some ⟨b, o, none⟩ → ¬ F b) : IntsAt w' ao q := by
  intro i hi
  obtain ⟨b, o, hb, hc, hr⟩ := h i hi
  exact ⟨b, o, hb, hf.cell hc (hF b o hb), hr⟩

theorem Bts.conv {w : World} {v : Value} {l : List UInt8} (h : Bts w 5 v l) : (convert 56 9 v).run Try.prog w = .ok (strV l) w := by
  obtain ⟨ao, cap, rfl, -⟩ := h.slice
  have := run_bytes_string (P := Try.prog) (w := w) h 56 9 Try.underlying56 Try.underlying5 Try.underlying9 ao l.length cap 0 (by omega) (fun hp => by
    rcases h.cases with ⟨hv, rfl⟩ | ⟨g, cap2, cur, hv, _⟩
    · simp at hp
    · injection hv with hv1 _ hv3
      subst hv1
      exact ⟨g, _, cap, rfl, rfl⟩)
  rw [this]
  simp [strV]

theorem survL_append (q : List Int) : ∀ (a b : List (Nat × List UInt8)) (j : Nat) (c : List UInt8), survL q j (a ++ b) c = survL q (j + a.length) b (survL q j a c)
  | [], b, j, c => by simp [survL]
  | p :: a, b, j, c => by
    simp only [List.cons_append, survL, List.length_cons]
    rw [survL_append q a b (j + 1)]
    congr 1
    omega
theorem survL_take_succ (q : List Int) (ps : List (Nat × List UInt8)) (k : Nat) (h : k < ps.length) (c : List UInt8) :
    survL q 0 (ps.take (k + 1)) c = if (q.getD (k % q.length) 0).tmod 2 ≠ 0 then putL (survL q 0 (ps.take k) c) (ps[k]'h).1 (ps[k]'h).2 else survL q 0 (ps.take k) c := by
  rw [List.take_succ_eq_append_getElem h, survL_append]
  have : (ps.take k).length = k := by simp; omega
  rw [this]
  simp [survL]

theorem DiskR.new (w : World) : DiskR (w.alloc (.cells #[.slice none 0 0, .slice none 0 0, .slice none 0 0, .int .i64 0, .bool false, .int .i64 0] 62)) w.heap.size (.slice none 0 0) (.slice none 0 0) (.slice none 0 0) Dk.new :=
  { obj := heap_alloc_new w _, bc := Bts.nil _ _, bs := Bts.nil _ _, bp := World.ownsRow_nil _ _ _ _, cd := Blk.nil, sd := Blk.nil, pd := Blk.nil, cs := fun _ h => absurd h Blk.nil, cp := fun _ h => absurd h Blk.nil, sp := fun _ h => absurd h Blk.nil }

theorem crash_nil (v : Value) (w : World) : Calls Try.prog 29 #[.pointer none, v] w fun e w' => e = .returned (.pointer (some ⟨w.heap.size, 0, none⟩)) ∧ w' = w.alloc (.cells #[.slice none 0 0, .slice none 0 0, .slice none 0 0, .int .i64 0, .bool false, .int .i64 0] 62) := by
  go_enter Try.func29, Try.ntmps29
  go_wp2_with (go_at_call 20; refine (new_any _).mono ?_; rintro e w' ⟨rfl, rfl⟩)
  go_ret
  exact ⟨rfl, rfl⟩

theorem new_abs (w : World) : Calls Try.prog 20 #[] w fun e w' => e = .returned (.pointer (some ⟨w.heap.size, 0, none⟩)) ∧ DiskR w' w.heap.size (.slice none 0 0) (.slice none 0 0) (.slice none 0 0) Dk.new ∧ Frm (fun _ => False) w w' :=
  (new_any w).mono fun e w' ⟨he, hw⟩ => by subst hw; exact ⟨he, DiskR.new w, (Frm.refl _ w).alloc _⟩

theorem DiskR.fresh {w W W' : World} {nd : Nat} {c s p c' s' : Value} (hF : Frm (fun _ => False) w W) (hS : ∀ k, DkF nd c s p k → w.heap.size ≤ k) (hf : Frm (DkF nd c s p) W W') (hs : Sub W (DkF nd c s p) (DkF nd c' s' p)) :
    Frm (fun _ => False) w W' ∧ ∀ k, DkF nd c' s' p k → w.heap.size ≤ k :=
  ⟨hF.trans' hf fun x hx => .inr (hS x hx), fun k hk => (hs k hk).elim (hS k) fun h => Nat.le_trans hF.size h⟩

set_option maxRecDepth 100000 in
set_option maxHeartbeats 2000000 in
theorem crash_any (d : Nat) (c s p : Value) (D : Dk) (aq : Option Addr) (capq : Nat) (q : List Int) (w : World) (hR : DiskR w d c s p D) (hok : D.Ok) (hq : IntsAt w aq q) (hql : q.length ≤ 9223372036854775807) (hp : D.pend.length ≤ 1099511627776) :
    Calls Try.prog 29 #[.pointer (some ⟨d, 0, none⟩), .slice aq q.length capq] w fun e w' => e = .returned (.pointer (some ⟨w.heap.size, 0, none⟩)) ∧ ∃ c2 s2, DiskR w' w.heap.size c2 s2 (.slice none 0 0) (D.crash q) ∧ Frm (fun _ => False) w w' ∧ ∀ k, DkF w.heap.size c2 s2 (.slice none 0 0) k → w.heap.size ≤ k := by
  obtain ⟨aop, capp, rfl⟩ := hR.pvalue
  obtain ⟨aos, caps, rfl, -⟩ := hR.bs.slice
  have hsl := hok.syn
  have hnd : d < w.heap.size := hR.lt
  have HR := Lib.hid hR
  have Hq := Lib.hid hq
  clear hR hq
  go_enter Try.func29, Try.ntmps29
  go_wp2_with fail
  refine (new_abs _).mono ?_
  rintro e W0 ⟨rfl, hN, hF0⟩
  have HN := Lib.hid hN
  have HF0 := Lib.hid hF0
  have hR0 := HR.out.frm hF0 (fun _ _ h => h)
  have hconv := hR0.bs.conv
  unfold strV at hconv
  obtain ⟨-, c1, -⟩ := cells6 hR0.obj
  clear hN hF0 hR0
  go_wp2_with fail
  clear hconv c1
  refine (put_any _ [] 0 ⟨D.synced.toArray⟩ W0 (Int.le_refl 0) (by have : (⟨D.synced.toArray⟩ : ByteArray).size = D.synced.length := List.size_toArray; omega) (by simp) HN.out.bc).mono ?_
  rintro e W1 ⟨v1, rfl, hb1, hf1, hs1⟩
  obtain ⟨R1, F1, S1⟩ := HN.out.store_now hf1 hb1 hs1
  obtain ⟨F2, S2⟩ := DiskR.fresh HF0.out (fun k hk => by rcases hk with rfl | hk | hk | hk <;> first | exact Nat.le_refl _ | exact absurd hk Blk.nil) F1 S1
  obtain ⟨ao1, cap1, rfl, -⟩ := hb1.slice
  have n0 := (cells6 (hf1.heap HN.out.obj Blk.nil)).1
  have m0 := (cells6 (hf1.heap HN.out.obj Blk.nil)).2.2.2.2.2.2.1
  have e1 : putL [] (0 : Int).toNat (⟨D.synced.toArray⟩ : ByteArray).data.toList = D.synced := by simp [putL]
  rw [e1] at R1 F1 S1 F2 S2 ⊢
  clear hb1 hf1 hs1 e1 F1 S1 HN HF0
  go_upto_if 23 with fail
  clear n0 m0
  generalize W1.setCell { block := w.heap.size, off := 0 } (Value.slice ao1 D.synced.length cap1) = W2 at R1 F2 ⊢
  generalize Value.slice ao1 D.synced.length cap1 = v2 at R1 S2 ⊢
  go_cut [] (fun wx => ∃ cv, DiskR wx w.heap.size cv (.slice none 0 0) (.slice none 0 0) { Dk.new with now := crashL D q } ∧ Frm (fun _ => False) w wx ∧ ∀ k, DkF w.heap.size cv (.slice none 0 0) (.slice none 0 0) k → w.heap.size ≤ k)
  case first =>
    by_cases hq0 : q.length = 0
    · have hcr : crashL D q = D.synced := by unfold crashL; rw [if_pos hq0]
      have hlt : q.length ≤ 0 := by omega
      have Hcr := Lib.hid hcr
      clear hcr hq0
      go_wp2_with fail
      go_meet
      exact ⟨v2, by rw [Hcr.out]; exact R1, F2, S2⟩
    · have hlt : 0 < q.length := by omega
      have hR2 := HR.out.frm F2 (fun _ _ h => h)
      obtain ⟨-, -, c2, -⟩ := cells6 hR2.obj
      clear hR2
      go_wp2_with fail
      clear c2
      go_loopw [30] (fun si wr => ∃ (k : Nat) (cv : Value), si = .int .i64 k ∧ k ≤ D.pend.length ∧ DiskR wr w.heap.size cv (.slice none 0 0) (.slice none 0 0) { Dk.new with now := survL q 0 (D.pend.take k) D.synced } ∧ Frm (fun _ => False) w wr ∧ (∀ k, DkF w.heap.size cv (.slice none 0 0) (.slice none 0 0) k → w.heap.size ≤ k)) (fun i _ => D.pend.length - (intOf i).toNat)
      case atStart => exact ⟨0, v2, rfl, Nat.zero_le _, R1, F2, S2⟩
      case round =>
        obtain ⟨k, cv, rfl, hk, hR, hF, hS⟩ := hrel
        clear R1 F2 S2
        by_cases hlk : k < D.pend.length
        · have hRd := HR.out.frm hF (fun _ _ h => h)
          obtain ⟨g, rfl, hg0, hg1⟩ := hRd.piece hlk
          have hmod : k % q.length < q.length := Nat.mod_lt _ hlt
          obtain ⟨qb, qo, rfl, hqc, hq1, hq2⟩ := (Hq.out.frm hF (fun _ _ _ h => h)) (k % q.length) hmod
          obtain ⟨x, hx⟩ : ∃ x, x = q.getD (k % q.length) 0 := ⟨_, rfl⟩
          rw [← hx] at hqc hq1 hq2
          have hqb : qb < wr.heap.size := World.block_lt_of_cell? wr _ hqc
          have Hx := Lib.hid hx
          clear hx hRd
          obtain ⟨n0, -, -, -, -, -, m0, -⟩ := cells6 hR.obj
          have hA : (survL q 0 (D.pend.take k) D.synced).length ≤ 16777216 := survL_length_le _ _ _ _ _ hok.syn fun x hx => hok.pie x (List.mem_of_mem_take hx)
          have hpk : (D.pend[k].1 : Int) + ((⟨D.pend[k].2.toArray⟩ : ByteArray).size : Int) ≤ 16777216 := by
            have := hok.pie D.pend[k] (List.getElem_mem hlk)
            have e : (⟨D.pend[k].2.toArray⟩ : ByteArray).size = D.pend[k].2.length := List.size_toArray
            rw [e]
            omega
          have hR3 := hR.frm (Frm.drew (Frm.alloc (Frm.refl (fun _ => False) wr) (Obj.cells #[Value.int IntKind.i64 ↑D.pend[k].fst, Value.string { data := D.pend[k].snd.toArray }] 89))) (fun _ _ h => h)
          have hF3 := Frm.drew (Frm.alloc hF (Obj.cells #[Value.int IntKind.i64 ↑D.pend[k].fst, Value.string { data := D.pend[k].snd.toArray }] 89))
          have hnd2 : w.heap.size < wr.heap.size := hR.lt
          have fin : ∀ (w1 : World) (v1 : Value), x.tmod 2 ≠ 0 → Bts w1 5 v1 (putL (survL q 0 (D.pend.take k) D.synced) ((D.pend[k].1 : Int)).toNat (⟨D.pend[k].2.toArray⟩ : ByteArray).data.toList) →
              Frm (Blk cv) ((wr.alloc (Obj.cells #[Value.int IntKind.i64 ↑D.pend[k].fst, Value.string { data := D.pend[k].snd.toArray }] 89)).drew) w1 →
              (∀ j, Blk v1 j → Blk cv j ∨ ((wr.alloc (Obj.cells #[Value.int IntKind.i64 ↑D.pend[k].fst, Value.string { data := D.pend[k].snd.toArray }] 89)).drew).heap.size ≤ j) →
              ∃ (k' : Nat) (cv' : Value), Value.int .i64 ((k + 1 : Nat) : Int) = .int .i64 k' ∧ k' ≤ D.pend.length ∧ DiskR (w1.setCell ⟨w.heap.size, 0, none⟩ v1) w.heap.size cv' (.slice none 0 0) (.slice none 0 0) { Dk.new with now := survL q 0 (D.pend.take k') D.synced } ∧ Frm (fun _ => False) w (w1.setCell ⟨w.heap.size, 0, none⟩ v1) ∧
                (∀ k, DkF w.heap.size cv' (.slice none 0 0) (.slice none 0 0) k → w.heap.size ≤ k) := by
            intro w1 v1 hx1 hb1 hf1 hs1
            obtain ⟨R, F, S⟩ := hR3.store_now hf1 hb1 hs1
            obtain ⟨F', S'⟩ := DiskR.fresh hF3 hS F S
            refine ⟨k + 1, v1, rfl, hlk, ?_, F', S'⟩
            rw [survL_take_succ q D.pend k hlk, ← (show x = _ from Hx), if_pos hx1]
            simpa using R
          have fin0 : x.tmod 2 = 0 → ∃ (k' : Nat) (cv' : Value), Value.int .i64 ((k + 1 : Nat) : Int) = .int .i64 k' ∧ k' ≤ D.pend.length ∧ DiskR (wr.alloc (Obj.cells #[Value.int IntKind.i64 ↑D.pend[k].fst, Value.string { data := D.pend[k].snd.toArray }] 89)) w.heap.size cv' (.slice none 0 0) (.slice none 0 0) { Dk.new with now := survL q 0 (D.pend.take k') D.synced } ∧ Frm (fun _ => False) w (wr.alloc (Obj.cells #[Value.int IntKind.i64 ↑D.pend[k].fst, Value.string { data := D.pend[k].snd.toArray }] 89)) ∧
                (∀ k, DkF w.heap.size cv' (.slice none 0 0) (.slice none 0 0) k → w.heap.size ≤ k) := by
            intro hx1
            refine ⟨k + 1, cv, rfl, hlk, ?_, hF.alloc _, hS⟩
            rw [survL_take_succ q D.pend k hlk, ← (show x = _ from Hx), if_neg (by simp [hx1])]
            exact hR.frm (Frm.alloc (Frm.refl (fun _ => False) wr) _) (fun _ _ h => h)
          have HR3 := Lib.hid hR3
          have HA := Lib.hid hA
          have Hpk := Lib.hid hpk
          have Fin := Lib.hid fin
          have Fin0 := Lib.hid fin0
          clear hR hF hS hR3 hF3 hA hpk fin fin0
          have hb0 : (k : Int) < (D.pend.length : Int) := by omega
          by_cases hodd : (x.tmod 2 != 0) = true
          · have hx1 : x.tmod 2 ≠ 0 := by simpa using hodd
            have Hx1 := Lib.hid hx1
            clear hx1
            go_upto_region 10 with fail
            go_region_with (go_at_call 52; refine (put_any cv _ _ _ ((wr.alloc (Obj.cells #[Value.int IntKind.i64 ↑D.pend[k].fst, Value.string { data := D.pend[k].snd.toArray }] 89)).drew) (Int.natCast_nonneg _) Hpk.out HA.out HR3.out.bc).mono ?_; rintro e w1 ⟨v1, rfl, hb1, hf1, hs1⟩; obtain ⟨ao1, cap1, rfl, -⟩ := hb1.slice; have g1 := (cells6 (hf1.heap HR3.out.obj HR3.out.cd)).1; have q1 := (cells6 (hf1.heap HR3.out.obj HR3.out.cd)).2.2.2.2.2.2.1; have P := Lib.hid (And.intro hb1 (And.intro hf1 hs1)); clear hb1 hf1 hs1)
            all_goals
              go_wp2
              go_roundw
              case rel => exact Fin.out w1 _ Hx1.out P.out.1 P.out.2.1 P.out.2.2
              case measure => simp [intOf]; omega
          · have hev : (x.tmod 2 != 0) = false := by simpa using hodd
            have hx1 : x.tmod 2 = 0 := by simpa using hev
            have F0 := Lib.hid (Fin0.out hx1)
            clear hx1 hodd
            go_wp2
            go_roundw
            case rel => exact F0.out
            case measure => simp [intOf]; omega
        · obtain rfl : k = D.pend.length := by omega
          have hcr : survL q 0 (D.pend.take D.pend.length) D.synced = crashL D q := by
            unfold crashL
            rw [if_neg (by omega), List.take_length]
          rw [hcr] at hR
          clear hcr
          go_wp2_with fail
          go_meet
          exact ⟨cv, hR, hF, hS⟩
  case rest =>
    obtain ⟨cv, R, F, S⟩ := hcut
    have hnl := Dk.crashL_len hok q
    have Hok := Lib.hid hok
    clear hok
    have hconv := R.bc.conv
    unfold strV at hconv
    obtain ⟨aoc, capc, rfl, -⟩ := R.bc.slice
    obtain ⟨n0, -⟩ := cells6 R.obj
    have HRn := Lib.hid R
    have HF := Lib.hid F
    have HS := Lib.hid S
    clear R F S R1 F2 S2
    go_wp2_with fail
    clear hconv n0
    refine (put_any _ [] 0 ⟨(crashL D q).toArray⟩ wc (Int.le_refl 0) (by have : (⟨(crashL D q).toArray⟩ : ByteArray).size = (crashL D q).length := List.size_toArray; omega) (by simp) HRn.out.bs).mono ?_
    rintro e W3 ⟨v3, rfl, hb3, hf3, hs3⟩
    obtain ⟨R3, F3, S3⟩ := HRn.out.store_synced hf3 hb3 hs3
    obtain ⟨F4, S4⟩ := DiskR.fresh HF.out HS.out F3 S3
    obtain ⟨ao3, cap3, rfl, -⟩ := hb3.slice
    have n1 := (cells6 (hf3.heap HRn.out.obj Blk.nil)).2.1
    have m1 := (cells6 (hf3.heap HRn.out.obj Blk.nil)).2.2.2.2.2.2.2.1
    have e1 : putL [] (0 : Int).toNat (⟨(crashL D q).toArray⟩ : ByteArray).data.toList = crashL D q := by simp [putL]
    rw [e1] at R3 F3 S3 F4 S4 ⊢
    clear hb3 hf3 hs3 e1 F3 S3 HRn HF HS
    go_wp2
    go_ret
    exact ⟨rfl, _, _, R3, F4, S4⟩
end Go.Proofs.Ytehdjajeonemoaa
