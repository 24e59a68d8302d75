/-
  Write: a disk in memory, and what Write makes of it. Conditions: the numbers of calls and of pieces lie below 2^40.
-/
import Derived.Test.YtehdjajeonemoaaSmall
import Derived.Lib.IndexBytes
namespace Go.Proofs.Ytehdjajeonemoaa
open Go.RowKit

/-- A disk in the heap: its struct in block d, the rows of its slices. -/
structure DiskR (w : World) (d : Nat) (c s p : Value) (D : Dk) : Prop where
  obj : w.heap[d]? = some (.cells #[c, s, p, .int .i64 D.calls, .bool D.limited, .int .i64 D.left] 62 (0, 0))
  bc : Bts w 5 c D.now
  bs : Bts w 5 s D.synced
  bp : w.ownsRow 0 89 2 p D.pend.length (pieceCells D.pend)
  cd : ¬ Blk c d
  sd : ¬ Blk s d
  pd : ¬ Blk p d
  cs : ∀ k, Blk c k → ¬ Blk s k
  cp : ∀ k, Blk c k → ¬ Blk p k
  sp : ∀ k, Blk s k → ¬ Blk p k

def DkF (d : Nat) (c s p : Value) : Nat → Prop := fun k => k = d ∨ Blk c k ∨ Blk s k ∨ Blk p k
/-- What a call may have taken besides: new blocks. -/
def Sub (w : World) (F F' : Nat → Prop) : Prop := ∀ k, F' k → F k ∨ w.heap.size ≤ k
theorem Sub.refl (w : World) (F : Nat → Prop) : Sub w F F := fun _ h => .inl h
theorem Sub.trans {w w' : World} {F G H : Nat → Prop} (h : Sub w F G) (k : Sub w' G H) (hs : w.heap.size ≤ w'.heap.size) : Sub w F H := fun x hx => (k x hx).elim (fun a => h x a) (fun a => .inr (Nat.le_trans hs a))

structure DiskAt (w : World) (d : Nat) (D : Dk) (F : Nat → Prop) : Prop where
  raw : ∃ c s p, DiskR w d c s p D ∧ F = DkF d c s p
  ok : D.Ok

theorem DiskR.lt {w : World} {d : Nat} {c s p : Value} {D : Dk} (h : DiskR w d c s p D) : d < w.heap.size := (Array.getElem?_eq_some_iff.1 h.obj).1
theorem DiskR.Flt {w : World} {d : Nat} {c s p : Value} {D : Dk} (h : DiskR w d c s p D) {k : Nat} (hk : DkF d c s p k) : k < w.heap.size := by
  rcases hk with rfl | hk | hk | hk
  · exact h.lt
  · exact h.bc.lt hk
  · exact h.bs.lt hk
  · exact (World.ownsRow.lt h.bp k hk).2
theorem DiskR.frm {w w' : World} {d : Nat} {c s p : Value} {D : Dk} {F : Nat → Prop} (h : DiskR w d c s p D) (hf : Frm F w w') (hF : ∀ k, DkF d c s p k → ¬ F k) : DiskR w' d c s p D :=
  { h with
    obj := hf.heap h.obj (hF d (.inl rfl))
    bc := h.bc.frm hf fun k hk => hF k (.inr (.inl hk))
    bs := h.bs.frm hf fun k hk => hF k (.inr (.inr (.inl hk)))
    bp := ownsRow_frm h.bp hf fun k hk => hF k (.inr (.inr (.inr hk))) }
theorem DiskAt.lt {w : World} {d : Nat} {D : Dk} {F : Nat → Prop} (h : DiskAt w d D F) {k : Nat} (hk : F k) : k < w.heap.size := by
  obtain ⟨⟨c, s, p, hr, rfl⟩, _⟩ := h
  exact hr.Flt hk
theorem DiskAt.self {w : World} {d : Nat} {D : Dk} {F : Nat → Prop} (h : DiskAt w d D F) : F d := by
  obtain ⟨⟨c, s, p, hr, rfl⟩, _⟩ := h
  exact .inl rfl
theorem DiskAt.frm {w w' : World} {d : Nat} {D : Dk} {F G : Nat → Prop} (h : DiskAt w d D F) (hf : Frm G w w') (hF : ∀ k, F k → ¬ G k) : DiskAt w' d D F := by
  obtain ⟨⟨c, s, p, hr, rfl⟩, ok⟩ := h
  exact ⟨⟨c, s, p, hr.frm hf hF, rfl⟩, ok⟩

def strSize : Value → Nat | .string s => s.size | _ => 0

theorem cut_zero (s : List UInt8) (f off : Nat) (h : s.length = 0) : cut f off s = [] := by
  cases f with
  | zero => rfl
  | succ f => rw [cut, if_pos h]
/-- One piece more. -/
theorem cut_step (s : List UInt8) (off : Nat) (h : 0 < s.length) : cut s.length off s = (off, s.take (min s.length (64 - off % 64))) :: cut (s.drop (min s.length (64 - off % 64))).length (off + min s.length (64 - off % 64)) (s.drop (min s.length (64 - off % 64))) := by
  have aux : ∀ (f g off : Nat) (s : List UInt8), s.length ≤ f → s.length ≤ g → cut f off s = cut g off s := by
    intro f
    induction f with
    | zero => intro g off s hf _; rw [cut_zero s 0 off (by omega), cut_zero s g off (by omega)]
    | succ f ih =>
      intro g off s hf hg
      by_cases h0 : s.length = 0
      · rw [cut_zero s _ off h0, cut_zero s g off h0]
      · cases g with
        | zero => omega
        | succ g =>
          have hn : 0 < min s.length (64 - off % 64) := by have := Nat.mod_lt off (show 0 < 64 by decide); omega
          rw [cut, cut, if_neg h0, if_neg h0, ih g _ _ (by simp; omega) (by simp; omega)]
  obtain ⟨f, hf⟩ : ∃ f, s.length = f + 1 := ⟨s.length - 1, by omega⟩
  have hn : 0 < min s.length (64 - off % 64) := by have := Nat.mod_lt off (show 0 < 64 by decide); omega
  have e : cut s.length off s = cut (f + 1) off s := by rw [hf]
  rw [e, cut, if_neg (by omega), aux f (s.drop (min s.length (64 - off % 64))).length _ _ (by simp; omega) (Nat.le_refl _)]

theorem write_bad (d : Nat) (off : Int) (s : ByteArray) (w : World) (h : off < 0 ∨ off > 16777216 - (s.size : Int)) (hs : s.size ≤ 9223372036854775807) (_ho : -9223372036854775808 ≤ off) :
    Calls Try.prog 33 #[.pointer (some ⟨d, 0, none⟩), .int .i64 off, .string s] w fun e w' => e = .returned (.int .i64 1) ∧ w = w' := by
  by_cases h0 : off < 0
  · clear h
    go_enter Try.func33, Try.ntmps33
    go_wp2
    go_ret
    exact ⟨rfl, rfl⟩
  · have h1 : 16777216 - (s.size : Int) < off := by omega
    have h2 : 0 ≤ off := by omega
    clear h h0
    go_enter Try.func33, Try.ntmps33
    go_wp2
    go_ret
    exact ⟨rfl, rfl⟩

set_option maxRecDepth 100000 in
theorem write_off (d : Nat) (c s' p : Value) (D : Dk) (off : Int) (s : ByteArray) (w : World) (hR : DiskR w d c s' p D) (h0 : 0 ≤ off) (h1 : off ≤ 16777216 - (s.size : Int)) (hoff : D.off = true) :
    Calls Try.prog 33 #[.pointer (some ⟨d, 0, none⟩), .int .i64 off, .string s] w fun e w' => e = .returned (.int .i64 70) ∧ w = w' := by
  have hobj := hR.obj
  have e : offB D.limited D.left = true := hoff
  clear hR hoff
  go_enter Try.func33, Try.ntmps33
  go_wp2_with fail
  refine (off_any _ _ _ _ _ _ _ _ hobj).mono ?_
  rintro e w' ⟨rfl, rfl⟩
  rw [e]
  go_wp2
  go_ret
  exact ⟨rfl, rfl⟩

/-- New contents are stored. -/
theorem DiskR.store_now {w w1 : World} {d : Nat} {c s p v : Value} {D : Dk} {n : List UInt8} (h : DiskR w d c s p D) (hf : Frm (Blk c) w w1) (hb : Bts w1 5 v n) (hs : ∀ k, Blk v k → Blk c k ∨ w.heap.size ≤ k) :
    DiskR (w1.setCell ⟨d, 0, none⟩ v) d v s p { D with now := n } ∧ Frm (DkF d c s p) w (w1.setCell ⟨d, 0, none⟩ v) ∧ Sub w (DkF d c s p) (DkF d v s p) := by
  have hd : ¬ Blk v d := fun e => (hs d e).elim h.cd (by have := h.lt; omega)
  have h1 : Frm (fun k => k = d) w1 (w1.setCell ⟨d, 0, none⟩ v) := (Frm.refl (fun k => k = d) _).setCell (.inl rfl) _
  refine ⟨{ obj := heap_set (hf.heap h.obj h.cd) v, bc := hb.frm h1 (fun k hk e => by subst e; exact hd hk), bs := ?_, bp := ?_, cd := hd, sd := h.sd, pd := h.pd, cs := ?_, cp := ?_, sp := h.sp }, ?_, ?_⟩
  · exact (h.bs.frm hf (fun k hk e => h.cs k e hk)).frm h1 (fun k hk e => by subst e; exact h.sd hk)
  · exact ownsRow_frm (ownsRow_frm h.bp hf (fun k hk e => h.cp k e hk)) h1 (fun k hk e => by subst e; exact h.pd hk)
  · intro k hk hk2
    rcases hs k hk with e | e
    · exact h.cs k e hk2
    · have := h.bs.lt hk2; omega
  · intro k hk hk2
    rcases hs k hk with e | e
    · exact h.cp k e hk2
    · have := (World.ownsRow.lt h.bp k hk2).2; omega
  · exact (hf.mono fun k hk => .inr (.inl hk)).setCell (.inl (.inl rfl)) _
  · rintro k (hk | hk | hk)
    · exact .inl (.inl hk)
    · exact (hs k hk).elim (fun e => .inl (.inr (.inl e))) .inr
    · exact .inl (.inr (.inr hk))

/-- The struct's block holds other numbers. -/
theorem DiskR.renew {w w1 : World} {d : Nat} {c s p : Value} {D D' : Dk} (h : DiskR w d c s p D) (hf : Frm (fun k => k = d) w w1) (hobj : w1.heap[d]? = some (.cells #[c, s, p, .int .i64 D'.calls, .bool D'.limited, .int .i64 D'.left] 62 (0, 0)))
    (e1 : D'.now = D.now) (e2 : D'.synced = D.synced) (e3 : D'.pend = D.pend) : DiskR w1 d c s p D' :=
  { obj := hobj, cd := h.cd, sd := h.sd, pd := h.pd, cs := h.cs, cp := h.cp, sp := h.sp
    bc := by rw [e1]; exact h.bc.frm hf (fun k hk e => by subst e; exact h.cd hk)
    bs := by rw [e2]; exact h.bs.frm hf (fun k hk e => by subst e; exact h.sd hk)
    bp := by rw [e3]; exact ownsRow_frm h.bp hf (fun k hk e => by subst e; exact h.pd hk) }

/-- A new list of pieces. -/
theorem DiskR.store_pend {w w1 : World} {d : Nat} {c s p v : Value} {D : Dk} {ps : List (Nat × List UInt8)} (h : DiskR w d c s p D) (hobj : w1.heap[d]? = some (.cells #[c, s, v, .int .i64 D.calls, .bool D.limited, .int .i64 D.left] 62 (0, 0)))
    (hf : Frm (fun k => k = d ∨ Blk p k) w w1) (hb : w1.ownsRow 0 89 2 v ps.length (pieceCells ps)) (hs : ∀ k, Blk v k → Blk p k ∨ w.heap.size ≤ k) :
    DiskR w1 d c s v { D with pend := ps } ∧ Frm (DkF d c s p) w w1 ∧ Sub w (DkF d c s p) (DkF d c s v) := by
  have hd : ¬ Blk v d := fun e => (hs d e).elim h.pd (by have := h.lt; omega)
  refine ⟨{ obj := hobj, bc := h.bc.frm hf ?_, bs := h.bs.frm hf ?_, bp := hb, cd := h.cd, sd := h.sd, pd := hd, cs := h.cs, cp := ?_, sp := ?_ }, hf.mono ?_, ?_⟩
  · rintro k hk (e | e)
    · subst e; exact h.cd hk
    · exact h.cp k hk e
  · rintro k hk (e | e)
    · subst e; exact h.sd hk
    · exact h.sp k hk e
  · intro k hk hk2
    rcases hs k hk2 with e | e
    · exact h.cp k hk e
    · have := h.bc.lt hk; omega
  · intro k hk hk2
    rcases hs k hk2 with e | e
    · exact h.sp k hk e
    · have := h.bs.lt hk; omega
  · rintro k (e | e)
    · exact .inl e
    · exact .inr (.inr (.inr e))
  · rintro k (hk | hk | hk | hk)
    · exact .inl (.inl hk)
    · exact .inl (.inr (.inl hk))
    · exact .inl (.inr (.inr (.inl hk)))
    · exact (hs k hk).elim (fun e => .inl (.inr (.inr (.inr e)))) .inr

set_option maxRecDepth 100000 in
set_option maxHeartbeats 1000000 in
theorem write_ok (d : Nat) (c s' p : Value) (D : Dk) (off : Int) (s : ByteArray) (w : World) (hR : DiskR w d c s' p D) (hok : D.Ok) (h0 : 0 ≤ off) (h1 : off ≤ 16777216 - (s.size : Int)) (hoff : D.off = false) (hc : D.calls ≤ 1099511627776) (hp : D.pend.length + s.size ≤ 1099511627776) (hl : D.left ≤ 1099511627776) :
    Calls Try.prog 33 #[.pointer (some ⟨d, 0, none⟩), .int .i64 off, .string s] w fun e w' => e = .returned (.int .i64 0) ∧ ∃ c2 p2, DiskR w' d c2 s' p2 (D.write off s.data.toList).2 ∧ Frm (DkF d c s' p) w w' ∧ Sub w (DkF d c s' p) (DkF d c2 s' p2) := by
  have hobj := hR.obj
  have e0 : offB D.limited D.left = false := hoff
  have hnl := hok.len
  go_enter Try.func33, Try.ntmps33
  go_wp2_with fail
  refine (off_any _ _ _ _ _ _ _ _ hobj).mono ?_
  rintro e w' ⟨rfl, rfl⟩
  rw [e0]
  obtain ⟨c0, c1, c2, c3, c4, c5, f0, f1, f2, f3, f4, f5⟩ := cells6 hobj
  clear hobj
  go_wp2_with fail
  refine (put_any c D.now off s w h0 (by omega) hnl hR.bc).mono ?_
  rintro e w1 ⟨v1, rfl, hb1, hf1, hs1⟩
  obtain ⟨R1, F1, S1⟩ := hR.store_now hf1 hb1 hs1
  obtain ⟨ao1, cap1, rfl, -⟩ := hb1.slice
  have g0 := hf1.cell c0 hR.cd
  have q0 := (hf1.frozen (o := 0) hR.lt hR.cd).trans f0
  have HR := Lib.hid hR
  clear hR c0 c1 c2 c3 c4 c5 f0 f1 f2 f3 f4 f5 hb1 hf1 hs1
  go_wp2_with fail
  clear g0 q0
  generalize w1.setCell { block := d, off := 0 } (Value.slice ao1 (putL D.now off.toNat s.data.toList).length cap1) = W2 at R1 F1 ⊢
  generalize Value.slice ao1 (putL D.now off.toNat s.data.toList).length cap1 = v2 at R1 F1 S1 ⊢
  go_loopw [1, 2] (fun so sr wr => ∃ (o : Nat) (r : ByteArray) (q : Value) (ps : List (Nat × List UInt8)), so = .int .i64 o ∧ sr = .string r ∧ o + r.size ≤ 16777216 ∧
      Hid (ps ++ cut r.data.toList.length o r.data.toList = D.pend ++ cut s.data.toList.length off.toNat s.data.toList) ∧ ps.length + r.size ≤ D.pend.length + s.size ∧
      DiskR wr d v2 s' q { D with now := putL D.now off.toNat s.data.toList, pend := ps } ∧ Frm (DkF d c s' p) w wr ∧ Sub w (DkF d c s' p) (DkF d v2 s' q)) (fun _ r _ => strSize r)
  case atStart => exact ⟨off.toNat, s, p, D.pend, by congr 1; omega, rfl, by omega, rfl, Nat.le_refl _, R1, F1, S1⟩
  case round =>
    obtain ⟨o, r, q, ps, rfl, rfl, hor, hcut, hlen, hR, hF, hS⟩ := hrel
    clear R1 F1 S1
    by_cases hr : 0 < r.size
    · have hobj := hR.obj
      have hq := hR.bp
      have hqd := hR.pd
      have hps : ps.length ≤ 1099511627776 := by omega
      have fin : ∀ (n : Nat) (s1 s2 : ByteArray) (w2 : World) (q2 : Value), n = min r.size (64 - o % 64) → s1.data.toList = r.data.toList.take n → s2.data.toList = r.data.toList.drop n →
          w2.heap[d]? = some (.cells #[v2, s', q2, .int .i64 D.calls, .bool D.limited, .int .i64 D.left] 62 (0, 0)) → w2.ownsRow 0 89 2 q2 (ps ++ [(o, s1.data.toList)]).length (pieceCells (ps ++ [(o, s1.data.toList)])) →
          Frm (fun k => k = d ∨ Blk q k) wr w2 → (∀ k, Blk q2 k → Blk q k ∨ wr.heap.size ≤ k) →
          ∃ (o' : Nat) (r' : ByteArray) (q : Value) (ps : List (Nat × List UInt8)), Value.int .i64 ((o + n : Nat) : Int) = .int .i64 o' ∧ Value.string s2 = .string r' ∧ o' + r'.size ≤ 16777216 ∧
            Hid (ps ++ cut r'.data.toList.length o' r'.data.toList = D.pend ++ cut s.data.toList.length off.toNat s.data.toList) ∧ ps.length + r'.size ≤ D.pend.length + s.size ∧
            DiskR w2 d v2 s' q { D with now := putL D.now off.toNat s.data.toList, pend := ps } ∧ Frm (DkF d c s' p) w w2 ∧ Sub w (DkF d c s' p) (DkF d v2 s' q) := by
        intro n s1 s2 w2 q2 hn e2 e1 ho2 hr2 hf2 hs2
        have hrl : r.data.toList.length = r.size := by rw [Array.length_toList]; rfl
        have hn0 : 0 < n := by have := Nat.mod_lt o (show 0 < 64 by decide); omega
        obtain ⟨R2, F2, S2⟩ := hR.store_pend ho2 hf2 hr2 hs2
        have hsz : s2.size = r.size - n := by
          have h1 := congrArg List.length e1
          rw [List.length_drop, hrl, Array.length_toList] at h1
          exact h1
        refine ⟨o + n, s2, q2, _, rfl, rfl, ?_, ?_, ?_, R2, hF.trans' F2 hS, hS.trans S2 hF.size⟩
        · rw [hsz]; omega
        · show _ = _
          rw [← (show _ = _ from hcut), e1, e2]
          have := cut_step r.data.toList o (by omega)
          rw [hrl, ← hn] at this
          rw [hrl, this]
          simp
        · rw [hsz]; simp; omega
      have Fin := Lib.hid fin
      clear fin
      have hm64 := Nat.mod_lt o (show 0 < 64 by decide)
      have arm : True := trivial
      by_cases hm : r.size ≤ 64 - o % 64
      · go_wp2_with fail
        go_region_with (go_at_call 55; refine (add_any d v2 s' q _ _ _ ps o _ wr.drew hobj hq hqd hps).mono ?_; rintro e w2 ⟨rfl, q2, ho2, hr2, hf2, hs2⟩; have P2 := Lib.hid (And.intro ho2 (And.intro hr2 (And.intro hf2 hs2))); clear ho2 hr2 hf2 hs2)
        go_wp2
        go_roundw
        case rel =>
          have h := Fin.out r.size r ByteArray.empty w2 q2 (by omega) (by rw [List.take_of_length_le (by rw [Array.length_toList]; exact Nat.le_refl _)]) (by rw [List.drop_eq_nil_of_le (by rw [Array.length_toList]; exact Nat.le_refl _)]; rfl) P2.out.1 P2.out.2.1 P2.out.2.2.1.ofDrew P2.out.2.2.2
          rw [Int.natCast_add] at h
          exact h
        case measure => simp [strSize]; omega
      · go_wp2_with fail
        go_region_with (go_at_call 55; refine (add_any d v2 s' q _ _ _ ps o _ wr.drew hobj hq hqd hps).mono ?_; rintro e w2 ⟨rfl, q2, ho2, hr2, hf2, hs2⟩; have P2 := Lib.hid (And.intro ho2 (And.intro hr2 (And.intro hf2 hs2))); clear ho2 hr2 hf2 hs2)
        go_wp2
        go_roundw
        case rel =>
          have h := Fin.out (64 - o % 64) (r.extract 0 (64 - o % 64)) (r.extract (64 - o % 64) r.size) w2 q2 (by omega) (by rw [Lib.extract_data]; simp) (Lib.extract_to_end r _) P2.out.1 P2.out.2.1 P2.out.2.2.1.ofDrew P2.out.2.2.2
          have e : ((o + (64 - o % 64) : Nat) : Int) = (o : Int) + (64 - (o : Int) % 64) := by omega
          rw [e] at h
          exact h
        case measure => simp [strSize]; omega
    · have hobj := hR.obj
      have hl2 : D.limited = true → 1 ≤ D.left := by
        intro hh
        have : (D.left == 0) = false := by simpa [offB, hh] using e0
        simp at this
        omega
      go_wp2_with (go_at_call 56; refine (count_any d v2 s' q D.calls D.limited D.left wr hobj (by omega) hl2 (by omega)).mono ?_; rintro e w2 ⟨rfl, ho2, hf2⟩)
      go_ret
      have hw : (D.write off s.data.toList).2 = { D.count with now := putL D.now off.toNat s.data.toList, pend := D.pend ++ cut s.data.toList.length off.toNat s.data.toList } := by
        have hsl : s.data.toList.length = s.size := by rw [Array.length_toList]; rfl
        unfold Dk.write
        rw [if_neg (by rw [hsl]; omega), if_neg (by rw [hoff]; simp)]
      have hps : ps = D.pend ++ cut s.data.toList.length off.toNat s.data.toList := by
        rw [← (show _ = _ from hcut), cut_zero _ _ _ (by rw [Array.length_toList]; show r.size = 0; omega)]
        simp
      refine ⟨rfl, v2, q, ?_, hF.trans' (hf2.mono fun k hk => (.inl hk : DkF d v2 s' q k)) hS, hS⟩
      rw [hw, ← hps]
      exact hR.renew hf2 ho2 rfl rfl rfl
end Go.Proofs.Ytehdjajeonemoaa
