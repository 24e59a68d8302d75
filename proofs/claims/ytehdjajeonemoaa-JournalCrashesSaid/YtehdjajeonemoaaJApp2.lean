/-
  An append to a journal: what its code does. Conditions: the journal and its disk lie among the things in memory.
-/
import Derived.Test.YtehdjajeonemoaaJApp
import Derived.Test.YtehdjajeonemoaaJRead
import Derived.Deep.DrawnRows
import Derived.Deep.QuietTactic
import Derived.BigQuiet
import Derived.Deep.RegionHeld3
import Derived.Recover
import Derived.Laws.Pointers
namespace Go.Proofs.Ytehdjajeonemoaa
open Go.RowKit

theorem done_ok (be bj : Addr) (u : FrameMode) (w : World) (hc : w.cell? be = some (.int .i64 0)) :
    CallsD Try.prog 61 #[.pointer (some be), .pointer (some bj)] u w fun e u' w' => u' = u ∧ (e = .returned (.tuple #[]) ∧ w' = w) := by
  go_enter_d Try.func61, Try.ntmps61
  go_wp2
  go_end0
  exact ⟨rfl, rfl⟩
theorem done_bad (be bj : Addr) (j : Nat) (c : Int) (u : FrameMode) (w : World) (hc : w.cell? be = some (.int .i64 c)) (h0 : (c == 0) = false) (hj : w.cell? bj = some (.pointer (some ⟨j, 0, none⟩)))
    (hb : w.cell? ⟨j, 4, none⟩ = some (.bool false)) (hf : w.frozen? ⟨j, 4, none⟩ = false) :
    CallsD Try.prog 61 #[.pointer (some be), .pointer (some bj)] u w fun e u' w' => u' = u ∧ (e = .returned (.tuple #[]) ∧ w' = w.setCell ⟨j, 4, none⟩ (.bool true)) := by
  go_enter_d Try.func61, Try.ntmps61
  go_wp2
  go_end0
  exact ⟨rfl, rfl⟩

theorem get_last (L : List Thing) (A B : Thing) : (L ++ [A] ++ [B])[L.length + 1]? = some B := by
  rw [List.getElem?_append_right (by simp)]
  simp
theorem get_mid (L : List Thing) (A B : Thing) : (L ++ [A] ++ [B])[L.length]? = some A := by
  rw [List.append_assoc, List.getElem?_append_right (Nat.le_refl _)]
  simp
theorem Own.init2 {w0 w : World} {L : List Thing} {A B T : Thing} (h : Own w0 ((L ++ [A] ++ [B]).set (L.length + 1) T) w) : Own w0 L w := by
  rw [List.append_assoc, List.set_append_right (h := by omega)] at h
  exact h.init
theorem app_result (tmps : Array Value) (w : World) (a : Addr) (c : Int) (hp : tmps[4]?.getD undef = .pointer (some a)) (hc : w.cell? a = some (.int .i64 c)) : (results Try.f42 tmps).run Try.prog w = .ok (.int .i64 c) w := by
  simp [results, Try.results42, go_sem, hp, hc]
theorem new_cell (w : World) (v : Value) (t : TypeId) (b : Nat) (hb : b = w.heap.size) : (w.alloc (.cells #[v] t)).cell? ⟨b, 0, none⟩ = some v := by
  subst hb
  rw [World.cell?_alloc_new]
  rfl

section
variable {w0 w : World} {L : List Thing}
set_option maxRecDepth 100000 in
set_option maxHeartbeats 2000000 in
theorem own_japp_broken (h : Own w0 L w) {j d : Nat} {J : Jn} (k : Nat) (hk : L[k]? = some (jT j d J)) (hb : J.broken = true) (s : ByteArray) :
    Calls Try.prog 42 #[.pointer (some ⟨j, 0, none⟩), .string s] w fun e w' => e = .returned (.int .i64 70) ∧ Own w0 L w' := by
  have h1 := (h.box #[.pointer (some ⟨j, 0, none⟩)] 65).box #[.int .i64 0] 44
  have hk1 := get_left [cellT (w.alloc (.cells #[.pointer (some ⟨j, 0, none⟩)] 65)).heap.size #[.int .i64 0] 44] (get_left [cellT w.heap.size #[.pointer (some ⟨j, 0, none⟩)] 65] hk)
  obtain ⟨c0, c1, c2, c3, c4, -⟩ := h1.jcells k hk1
  rw [hb] at c4
  clear hk1
  go_enter_defers Try.func42, Try.ntmps42
  go_wp2_with fail
  exact ⟨_, app_result _ _ _ 70 rfl (new_cell _ _ _ _ (by simp)), rfl, (h.alloc _).alloc _⟩

set_option maxRecDepth 100000 in
set_option maxHeartbeats 2000000 in
theorem own_japp_full (h : Own w0 L w) {j d : Nat} {J : Jn} (k : Nat) (hk : L[k]? = some (jT j d J)) (hb : J.broken = false) (s : ByteArray) (hf : J.fits s.size = false) (hs : s.size ≤ 1099511627776) (hm : J.many ≤ 1099511627776) (hby : J.bytes ≤ 1099511627776) :
    Calls Try.prog 42 #[.pointer (some ⟨j, 0, none⟩), .string s] w fun e w' => e = .returned (.int .i64 2) ∧ Own w0 L w' := by
  have h1 := (h.box #[.pointer (some ⟨j, 0, none⟩)] 65).box #[.int .i64 0] 44
  have hk1 := get_left [cellT (w.alloc (.cells #[.pointer (some ⟨j, 0, none⟩)] 65)).heap.size #[.int .i64 0] 44] (get_left [cellT w.heap.size #[.pointer (some ⟨j, 0, none⟩)] 65] hk)
  obtain ⟨c0, c1, c2, c3, c4, -⟩ := h1.jcells k hk1
  rw [hb] at c4
  have hf' : (16777216 : Int) < (J.bytes : Int) + s.size + 16 * (J.many + 1) + 256 := by
    have : ¬ (J.bytes + s.size + 16 * (J.many + 1) + 256 ≤ 16777216) := by simpa [Jn.fits] using hf
    omega
  clear hk1 hf
  go_enter_defers Try.func42, Try.ntmps42
  go_wp2_with fail
  go_quiet (fail)
  go_wp2_with fail
  have h2 := ((h1.drewN nq).store (L.length + 1) (get_last _ _ _) 0 (.int .i64 2)).init2
  rw [World.size_alloc] at h2
  have hr := (((h1.drewN nq).store (L.length + 1) (get_last _ _ _) 0 (.int .i64 2)).obj (x := (w.alloc (.cells #[.pointer (some ⟨j, 0, none⟩)] 65)).heap.size) (cs := #[.int .i64 2]) (t := 44) (L.length + 1) (by rw [List.getElem?_set_self (by simp)]; rfl))
  rw [World.size_alloc] at hr
  exact ⟨_, app_result _ _ _ 2 rfl (cell_of_one hr), rfl, h2⟩

theorem Own.widen {L : List Thing} (h : Own w0 L w) (i : Nat) {d n n' : Nat} {D : Dk} (hi : L[i]? = some (diskT d D n)) (hn : n ≤ n') : Own w0 (L.set i (diskT d D n')) w := by
  obtain ⟨F, ⟨c, s', p, hd, hok, hfit, rfl⟩, _, ht⟩ := h.turn hi
  exact ht (diskT d D n') _ w ⟨c, s', p, hd, hok, hfit.mono hn, rfl⟩ (Frm.refl _ _) (Sub.refl _ _)

theorem trip {a : Int} {b : Jn} {c : Dk} {x : Int × Jn × Dk} (h : x = (a, b, c)) : x.1 = a ∧ x.2.1 = b ∧ x.2.2 = c := by
  subst h
  exact ⟨rfl, rfl, rfl⟩

/-- The way out behind a failure: the closure breaks the journal. -/
theorem fin_bad {j d bj be : Nat} {J : Jn} {L1 : List Thing} {w4 : World} (h4 : Own w0 (L1 ++ [cellT bj #[.pointer (some ⟨j, 0, none⟩)] 65] ++ [cellT be #[.int .i64 0] 44]) w4) (k : Nat) (hk : L1[k]? = some (jT j d J)) (hb : J.broken = false) :
    CallsD Try.prog 61 #[.pointer (some ⟨be, 0, none⟩), .pointer (some ⟨bj, 0, none⟩)] .returning (w4.setCell ⟨be, 0, none⟩ (.int .i64 70)) fun e u' w' => u' = .returning ∧ e = .returned (.tuple #[]) ∧ w'.cell? ⟨be, 0, none⟩ = some (.int .i64 70) ∧ Own w0 (L1.set k (jT j d { J with broken := true })) w' := by
  have hkl : k < L1.length := (List.getElem?_eq_some_iff.1 hk).1
  have h5 := h4.store (L1.length + 1) (get_last _ _ _) 0 (.int .i64 70)
  rw [List.append_assoc, List.set_append_right (h := by omega), show L1.length + 1 - L1.length = 1 by omega] at h5
  have h6 : Own w0 (L1 ++ [cellT bj #[.pointer (some ⟨j, 0, none⟩)] 65, cellT be #[.int .i64 70] 44]) (w4.setCell ⟨be, 0, none⟩ (.int .i64 70)) := h5
  have hk6 := get_left [cellT bj #[.pointer (some ⟨j, 0, none⟩)] 65, cellT be #[.int .i64 70] 44] hk
  obtain ⟨-, -, -, -, c4, -, -, -, -, f4⟩ := Own.jcells h6 k hk6
  rw [hb] at c4
  have b1 := (h6.cell1 L1.length (by rw [List.getElem?_append_right (Nat.le_refl _), Nat.sub_self]; rfl)).1
  refine (done_bad ⟨be, 0, none⟩ ⟨bj, 0, none⟩ j 70 .returning _ (h6.cell1 (L1.length + 1) (by rw [List.getElem?_append_right (by omega), show L1.length + 1 - L1.length = 1 by omega]; rfl)).1 (by decide) b1 c4 f4).mono ?_
  rintro e u' w'' ⟨rfl, rfl, rfl⟩
  have h7 := h6.store k hk6 4 (.bool true)
  have h8 := h7.cell1 (x := be) (v := .int .i64 70) (t := 44) (L1.length + 1) (by rw [List.getElem?_set_ne (by omega), List.getElem?_append_right (by omega), show L1.length + 1 - L1.length = 1 by omega]; rfl)
  rw [List.set_append_left (h := hkl)] at h7
  exact ⟨rfl, rfl, h8.1, h7.init⟩

/-- The way out of an append. -/
theorem fin_ok {j d bj be : Nat} {J : Jn} {L1 : List Thing} {w4 : World} (h4 : Own w0 (L1 ++ [cellT bj #[.pointer (some ⟨j, 0, none⟩)] 65] ++ [cellT be #[.int .i64 0] 44]) w4) (k : Nat) (hk : L1[k]? = some (jT j d J)) (hb : J.broken = false) (x y z : Int) (e m b : Nat) (hx : x = e) (hy : y = m) (hz : z = b) :
    CallsD Try.prog 61 #[.pointer (some ⟨be, 0, none⟩), .pointer (some ⟨bj, 0, none⟩)] .returning ((((w4.setCell ⟨j, 1, none⟩ (.int .i64 x)).setCell ⟨j, 2, none⟩ (.int .i64 y)).setCell ⟨j, 3, none⟩ (.int .i64 z)).setCell ⟨be, 0, none⟩ (.int .i64 0)) fun e' u' w' => u' = .returning ∧ e' = .returned (.tuple #[]) ∧ w'.cell? ⟨be, 0, none⟩ = some (.int .i64 0) ∧ Own w0 (L1.set k (jT j d ⟨e, m, b, false⟩)) w' := by
  subst hx hy hz
  have hkl : k < L1.length := (List.getElem?_eq_some_iff.1 hk).1
  rw [List.append_assoc] at h4
  have hk4 : (L1 ++ ([cellT bj #[.pointer (some ⟨j, 0, none⟩)] 65] ++ [cellT be #[.int .i64 0] 44]))[k]? = some (cellT j #[.pointer (some ⟨d, 0, none⟩), .int .i64 J.fin, .int .i64 J.many, .int .i64 J.bytes, .bool J.broken] 95) := get_left _ hk
  rw [hb] at hk4
  have h5 := h4.store k hk4 1 (.int .i64 e)
  rw [List.set_append_left (h := hkl)] at h5
  have h6 := h5.store k (get_left _ (List.getElem?_set_self hkl)) 2 (.int .i64 m)
  rw [List.set_append_left (h := by rw [List.length_set]; exact hkl), List.set_set] at h6
  have h7 := h6.store k (get_left _ (List.getElem?_set_self hkl)) 3 (.int .i64 b)
  rw [List.set_append_left (h := by rw [List.length_set]; exact hkl), List.set_set] at h7
  have h7' : Own w0 (L1.set k (jT j d ⟨e, m, b, false⟩) ++ [cellT bj #[.pointer (some ⟨j, 0, none⟩)] 65] ++ [cellT be #[.int .i64 0] 44]) (((w4.setCell ⟨j, 1, none⟩ (.int .i64 e)).setCell ⟨j, 2, none⟩ (.int .i64 m)).setCell ⟨j, 3, none⟩ (.int .i64 b)) := by rw [List.append_assoc]; exact h7
  have h8 := h7'.store _ (get_last _ _ _) 0 (.int .i64 0)
  have h9 := h8.cell1 (x := be) (v := .int .i64 0) (t := 44) _ (by rw [List.getElem?_set_self (by simp)]; rfl)
  refine (done_ok ⟨be, 0, none⟩ ⟨bj, 0, none⟩ .returning _ h9.1).mono ?_
  rintro e' u' w'' ⟨rfl, rfl, rfl⟩
  exact ⟨rfl, rfl, h9.1, h8.init2⟩

set_option maxRecDepth 100000 in
set_option maxHeartbeats 4000000 in
theorem own_japp_a (h : Own w0 L w) {j d : Nat} {J : Jn} {D : Dk} {n : Nat} (i k : Nat) (hi : L[i]? = some (diskT d D n)) (hk : L[k]? = some (jT j d J)) (hik : i ≠ k) (hb : J.broken = false) (s : ByteArray) (hf : J.fits s.size = true) (hfin : J.fin + s.size + 8 ≤ 16777216) (hn : n + s.size + 100 ≤ 1099511627776) (e1 : (D.both J.fin (frm8 s.data.toList)).1 = false) :
    Calls Try.prog 42 #[.pointer (some ⟨j, 0, none⟩), .string s] w fun e w' => e = .returned (.int .i64 (japp J D s.data.toList).1) ∧
      Own w0 ((L.set i (diskT d (japp J D s.data.toList).2.2 (n + s.size + 30))).set k (jT j d (japp J D s.data.toList).2.1)) w' := by
  have h1 := (h.box #[.pointer (some ⟨j, 0, none⟩)] 65).box #[.int .i64 0] 44
  have hk1 := get_left [cellT (w.alloc (.cells #[.pointer (some ⟨j, 0, none⟩)] 65)).heap.size #[.int .i64 0] 44] (get_left [cellT w.heap.size #[.pointer (some ⟨j, 0, none⟩)] 65] hk)
  obtain ⟨c0, c1, c2, c3, c4, -⟩ := h1.jcells k hk1
  rw [hb] at c4
  have hf' : (J.bytes : Int) + s.size + 16 * (J.many + 1) + 256 ≤ 16777216 := by
    have : (J.bytes + s.size + 16 * (J.many + 1) + 256 ≤ 16777216) := by simpa [Jn.fits] using hf
    omega
  have hd : decide ((16777216 : Int) < (J.bytes : Int) + s.size + 16 * (J.many + 1) + 256) = false := by
    rw [decide_eq_false_iff_not]; omega
  have hb1 : J.bytes ≤ 16777216 := by omega
  have hb2 : J.many ≤ 16777216 := by omega
  have hb3 : s.size ≤ 16777216 := by omega
  clear hf'
  have E1 := Lib.hid e1
  clear e1
  have Hf := Lib.hid hf
  have Hb := Lib.hid hb
  have hmf : ∀ (fn : Fn) (first cap : Array Value) (w : World), (Instr.makeFunc fn first cap).run Try.prog w = .ok (.func fn first cap) w := fun _ _ _ _ => rfl
  have Hi := Lib.hid hi
  have Hk := Lib.hid hk
  have Hik := Lib.hid hik
  clear hk1 hf hb hi hk hik
  go_enter_defers Try.func42, Try.ntmps42
  go_wp2_with fail
  go_quiet (fail)
  obtain ⟨bj, hbj⟩ : ∃ b, b = w.heap.size := ⟨_, rfl⟩
  obtain ⟨be, hbe⟩ : ∃ b, b = w.heap.size + 1 := ⟨_, rfl⟩
  have h2 := h1.drewN nq
  rw [World.size_alloc, ← hbe, ← hbj] at h2
  obtain ⟨W, hW⟩ : ∃ W, W = (((w.alloc (.cells #[.pointer (some ⟨j, 0, none⟩)] 65)).alloc (.cells #[.int .i64 0] 44)).drewN nq) := ⟨_, rfl⟩
  rw [← hW] at h2 ⊢
  rw [← hbe, ← hbj]
  clear h1 c0 c1 c2 c3 c4 hW hbj hbe
  go_wp2_with fail
  refine (digits_any s.size _ (by omega)).mono ?_
  rintro e w2 ⟨rfl, f2⟩
  have h3 := h2.still f2
  clear h2 f2
  obtain ⟨S, hS⟩ : ∃ S : ByteArray, S = ⟨(be8 s.size).toArray⟩ := ⟨_, rfl⟩
  have hS8 : S.size = 8 := by rw [hS]; rfl
  have hS1 : 8 ≤ S.size := by omega
  have hS2 : S.size ≤ 8 := by omega
  have HS : Hid (S.data.toList = be8 s.size) := by rw [hS]; rfl
  rw [← hS]
  clear hS hS8
  have hfr : (S ++ s).data.toList = frm8 s.data.toList := by
    rw [ByteArray.data_append, Array.toList_append, HS.out, frm8, Array.length_toList]
    rfl
  go_upto_region 9 with fail
  have hT0 : (S ++ s).size = S.size + s.size := ByteArray.size_append
  generalize S ++ s = T at hfr hT0 ⊢
  have hT1 : T.size ≤ s.size + 8 := by omega
  have hT2 : s.size + 8 ≤ T.size := by omega
  have hlen : (frm8 s.data.toList).length = T.size := by rw [← hfr, Array.length_toList]; rfl
  have Hfr := Lib.hid hfr
  have Hlen := Lib.hid hlen
  clear hfr HS hT0 hlen
  have hi3 : (L ++ [cellT bj #[.pointer (some ⟨j, 0, none⟩)] 65] ++ [cellT be #[.int .i64 0] 44])[i]? = some (diskT d D n) := get_left _ (get_left _ Hi.out)
  have hk3 : (L ++ [cellT bj #[.pointer (some ⟨j, 0, none⟩)] 65] ++ [cellT be #[.int .i64 0] 44])[k]? = some (jT j d J) := get_left _ (get_left _ Hk.out)
  have hil : i < L.length := (List.getElem?_eq_some_iff.1 Hi.out).1
  have hkl : k < L.length := (List.getElem?_eq_some_iff.1 Hk.out).1
  have Hi3 := Lib.hid hi3
  have Hk3 := Lib.hid hk3
  clear hi3 hk3
  obtain ⟨-, d1, -⟩ := Own.jcells h3 k Hk3.out
  have d0 := (h3.cell1 L.length (get_mid _ _ _)).1
  have h3d := h3.drew
  have d1' : w2.drew.cell? ⟨j, 1, none⟩ = some (.int .i64 J.fin) := d1
  have d0' : w2.drew.cell? ⟨bj, 0, none⟩ = some (.pointer (some ⟨j, 0, none⟩)) := d0
  clear d0 d1
  refine wp_region_noPanic ?_
  refine wp_region_held_drew (S := fun w' => w'.cell? ⟨bj, 0, none⟩ = some (.pointer (some ⟨j, 0, none⟩)) ∧ w'.cell? ⟨j, 1, none⟩ = some (.int .i64 J.fin)) (by kernel_rfl) ⟨d0', d1'⟩ (fun hHeld => ?_)
  refine wpAnyH_take (i := 0) (oi := ⟨some 41, _, _, _, _, _⟩) (v := (.pointer (some ⟨j, 0, none⟩))) rfl (by kernel_rfl) (by kernel_rfl) (by kernel_rfl) (fun _ _ _ h => h) (.inl ⟨by rfl, fun w hw => by dsimp only at hw; go_simp⟩) hHeld ?_
  simp only [Act.put, List.setIfInBounds_toArray, List.set_cons_zero, List.set_cons_succ]
  refine wpAnyH_take (i := 1) (oi := ⟨some 42, _, _, _, _, _⟩) (v := (.pointer (some ⟨j, 0, none⟩))) rfl (by kernel_rfl) (by kernel_rfl) (by kernel_rfl) (fun _ _ _ h => h) (.inl ⟨by rfl, fun w hw => by dsimp only at hw; go_simp⟩) hHeld ?_
  simp only [Act.put, List.setIfInBounds_toArray, List.set_cons_zero, List.set_cons_succ]
  refine wpAnyH_take (i := 2) (oi := ⟨some 43, _, _, _, _, _⟩) (v := (.pointer (some ⟨j, 0, none⟩))) rfl (by kernel_rfl) (by kernel_rfl) (by kernel_rfl) (fun _ _ _ h => h) (.inl ⟨by rfl, fun w hw => by dsimp only at hw; go_simp⟩) hHeld ?_
  simp only [Act.put, List.setIfInBounds_toArray, List.set_cons_zero, List.set_cons_succ]
  refine wpAnyH_take (i := 3) (oi := ⟨some 44, _, _, _, _, _⟩) (v := (.pointer (some ⟨j, 1, none⟩))) rfl (by kernel_rfl) (by kernel_rfl) (by kernel_rfl) (fun _ _ _ h => h) (.inl ⟨by rfl, fun w hw => by dsimp only at hw; go_simp⟩) hHeld ?_
  simp only [Act.put, List.setIfInBounds_toArray, List.set_cons_zero, List.set_cons_succ]
  refine wpAnyH_take (i := 4) (oi := ⟨some 45, _, _, _, _, _⟩) (v := (.int .i64 J.fin)) rfl (by kernel_rfl) (by kernel_rfl) (by kernel_rfl) (fun _ _ _ h => h) (.inl ⟨by rfl, fun w hw => by dsimp only at hw; go_simp⟩) hHeld ?_
  simp only [Act.put, List.setIfInBounds_toArray, List.set_cons_zero, List.set_cons_succ]
  refine wpAnyH_take (i := 5) (oi := ⟨some 46, _, _, _, _, _⟩) (v := (.string T)) rfl (by kernel_rfl) (by kernel_rfl) (by kernel_rfl) (fun _ _ _ h => h) (.inl ⟨by rfl, fun w hw => by dsimp only at hw; go_simp⟩) hHeld ?_
  simp only [Act.put, List.setIfInBounds_toArray, List.set_cons_zero, List.set_cons_succ]
  refine wpAnyH_ready (rs := [6]) (by kernel_rfl) (by simp) ?_
  refine AllReadyH.cons (o := ⟨some 47, _, _, _, _, _⟩) rfl (fun K hK => ?_) AllReadyH.nil
  go_simp
  refine (own_jwrite h3d i k Hi3.out Hk3.out Hik.out J.fin T (by omega) (by omega)).mono ?_
  rintro e w4 ⟨rfl, h4⟩
  rw [Hfr.out] at h4 ⊢
  rw [E1.out]
  rw [List.append_assoc, List.set_append_left (h := hil), ← List.append_assoc] at h4
  have h4 := h4.widen i (n' := n + s.size + 30) (get_left _ (get_left _ (List.getElem?_set_self hil))) (by omega)
  rw [List.append_assoc, List.set_append_left (h := by rw [List.length_set]; exact hil), ← List.append_assoc, List.set_set] at h4
  obtain ⟨L1, hL1⟩ : ∃ L1, L1 = L.set i (diskT d (D.both J.fin (frm8 s.data.toList)).2 (n + s.size + 30)) := ⟨_, rfl⟩
  have hk1 : L1[k]? = some (jT j d J) := by rw [hL1, List.getElem?_set_ne Hik.out]; exact Hk.out
  rw [← hL1] at h4
  have HL1 := Lib.hid hL1
  have Hk1 := Lib.hid hk1
  clear hL1 hk1
  refine hK.out _ _ ⟨(h4.cell1 _ (get_mid _ _ _)).1, (Own.jcells h4 k (get_left _ (get_left _ Hk1.out))).2.1⟩ (fun hHeld => ?_)
  clear hK K
  refine wpAnyH_take (i := 7) (oi := ⟨some 48, _, _, _, _, _⟩) (v := (.bool true)) rfl (by kernel_rfl) (by kernel_rfl) (by kernel_rfl) (fun _ _ _ h => h) (.inl ⟨by rfl, fun w hw => by dsimp only at hw; go_simp⟩) hHeld ?_
  simp only [Act.put, List.setIfInBounds_toArray, List.set_cons_zero, List.set_cons_succ]
  refine wpAnyH_take (i := 8) (oi := ⟨some 49, _, _, _, _, _⟩) (v := (.bool true)) rfl (by kernel_rfl) (by kernel_rfl) (by kernel_rfl) (fun _ _ _ h => h) (.inl ⟨by rfl, fun w hw => by dsimp only at hw; go_simp⟩) hHeld ?_
  simp only [Act.put, List.setIfInBounds_toArray, List.set_cons_zero, List.set_cons_succ]
  refine wpAnyH_take (i := 9) (oi := ⟨some 50, _, _, _, _, _⟩) rfl (by kernel_rfl) (by kernel_rfl) (by kernel_rfl) (fun _ _ _ h => h) (.inr ⟨by rfl, rfl⟩) hHeld ?_
  simp only [Act.put, List.setIfInBounds_toArray, List.set_cons_zero, List.set_cons_succ]
  refine wpAnyH_take (i := 10) (oi := ⟨some 51, _, _, _, _, _⟩) rfl (by kernel_rfl) (by kernel_rfl) (by kernel_rfl) (fun _ _ _ h => h) (.inr ⟨by rfl, rfl⟩) hHeld ?_
  simp only [Act.put, List.setIfInBounds_toArray, List.set_cons_zero, List.set_cons_succ]
  refine wpAnyH_take (i := 11) (oi := ⟨some 52, _, _, _, _, _⟩) rfl (by kernel_rfl) (by kernel_rfl) (by kernel_rfl) (fun _ _ _ h => h) (.inr ⟨by rfl, rfl⟩) hHeld ?_
  simp only [Act.put, List.setIfInBounds_toArray, List.set_cons_zero, List.set_cons_succ]
  refine wpAnyH_take (i := 12) (oi := ⟨some 53, _, _, _, _, _⟩) rfl (by kernel_rfl) (by kernel_rfl) (by kernel_rfl) (fun _ _ _ h => h) (.inr ⟨by rfl, rfl⟩) hHeld ?_
  simp only [Act.put, List.setIfInBounds_toArray, List.set_cons_zero, List.set_cons_succ]
  refine wpAnyH_take (i := 13) (oi := ⟨some 54, _, _, _, _, _⟩) rfl (by kernel_rfl) (by kernel_rfl) (by kernel_rfl) (fun _ _ _ h => h) (.inr ⟨by rfl, rfl⟩) hHeld ?_
  simp only [Act.put, List.setIfInBounds_toArray, List.set_cons_zero, List.set_cons_succ]
  refine wpAnyH_take (i := 14) (oi := ⟨some 55, _, _, _, _, _⟩) rfl (by kernel_rfl) (by kernel_rfl) (by kernel_rfl) (fun _ _ _ h => h) (.inr ⟨by rfl, rfl⟩) hHeld ?_
  simp only [Act.put, List.setIfInBounds_toArray, List.set_cons_zero, List.set_cons_succ]
  refine wpAnyH_take (i := 15) (oi := ⟨some 56, _, _, _, _, _⟩) rfl (by kernel_rfl) (by kernel_rfl) (by kernel_rfl) (fun _ _ _ h => h) (.inr ⟨by rfl, rfl⟩) hHeld ?_
  simp only [Act.put, List.setIfInBounds_toArray, List.set_cons_zero, List.set_cons_succ]
  refine wpAnyH_take (i := 16) (oi := ⟨some 57, _, _, _, _, _⟩) rfl (by kernel_rfl) (by kernel_rfl) (by kernel_rfl) (fun _ _ _ h => h) (.inr ⟨by rfl, rfl⟩) hHeld ?_
  simp only [Act.put, List.setIfInBounds_toArray, List.set_cons_zero, List.set_cons_succ]
  refine wpAnyH_take (i := 17) (oi := ⟨some 58, _, _, _, _, _⟩) rfl (by kernel_rfl) (by kernel_rfl) (by kernel_rfl) (fun _ _ _ h => h) (.inr ⟨by rfl, rfl⟩) hHeld ?_
  simp only [Act.put, List.setIfInBounds_toArray, List.set_cons_zero, List.set_cons_succ]
  refine wpAnyH_take (i := 18) (oi := ⟨some 59, _, _, _, _, _⟩) rfl (by kernel_rfl) (by kernel_rfl) (by kernel_rfl) (fun _ _ _ h => h) (.inr ⟨by rfl, rfl⟩) hHeld ?_
  simp only [Act.put, List.setIfInBounds_toArray, List.set_cons_zero, List.set_cons_succ]
  refine wpAnyH_take (i := 19) (oi := ⟨some 60, _, _, _, _, _⟩) rfl (by kernel_rfl) (by kernel_rfl) (by kernel_rfl) (fun _ _ _ h => h) (.inr ⟨by rfl, rfl⟩) hHeld ?_
  simp only [Act.put, List.setIfInBounds_toArray, List.set_cons_zero, List.set_cons_succ]
  refine wpAnyH_take (i := 20) (oi := ⟨some 61, _, _, _, _, _⟩) rfl (by kernel_rfl) (by kernel_rfl) (by kernel_rfl) (fun _ _ _ h => h) (.inr ⟨by rfl, rfl⟩) hHeld ?_
  simp only [Act.put, List.setIfInBounds_toArray, List.set_cons_zero, List.set_cons_succ]
  refine wpAnyH_take (i := 21) (oi := ⟨some 62, _, _, _, _, _⟩) (v := (.bool true)) rfl (by kernel_rfl) (by kernel_rfl) (by kernel_rfl) (fun _ _ _ h => h) (.inl ⟨by rfl, fun w hw => by dsimp only at hw; go_simp⟩) hHeld ?_
  simp only [Act.put, List.setIfInBounds_toArray, List.set_cons_zero, List.set_cons_succ]
  refine wpAnyH_done (by kernel_rfl) ?_ _
  refine NoPanic.normal ?_
  obtain ⟨z0, z1⟩ := h4.cell1 (x := be) (v := .int .i64 0) (t := 44) _ (get_last _ _ _)
  clear h3d d0' d1' hHeld
  go_wp2_with fail
  have hj : japp J D s.data.toList = (70, { J with broken := true }, (D.both J.fin (frm8 s.data.toList)).2) := by
    unfold japp
    rw [if_neg (by rw [Hb.out]; simp), if_neg (by rw [size_toList, Hf.out]; simp), if_pos E1.out]
  obtain ⟨hj1, hj2, hj3⟩ := trip hj
  have Hj1 := Lib.hid hj1
  have Hj2 := Lib.hid hj2
  have Hj3 := Lib.hid hj3
  clear hj hj1 hj2 hj3
  have h9 := fin_bad h4 k Hk1.out Hb.out
  rw [HL1.out] at h9
  refine leaves_cons (f := 61) (args := #[.pointer (some ⟨be, 0, none⟩), .pointer (some ⟨bj, 0, none⟩)]) (by simp) (by simp [go_sem]) ?_
  refine h9.mono ?_
  rintro e u' w'' ⟨rfl, rfl, hr, ho⟩
  exact ⟨_, app_result _ _ ⟨be, 0, none⟩ 70 rfl hr, ret_i64 Hj1.out.symm, by rw [Hj2.out, Hj3.out]; exact ho⟩

set_option maxRecDepth 100000 in
set_option maxHeartbeats 4000000 in
theorem own_japp_b (h : Own w0 L w) {j d : Nat} {J : Jn} {D : Dk} {n : Nat} (i k : Nat) (hi : L[i]? = some (diskT d D n)) (hk : L[k]? = some (jT j d J)) (hik : i ≠ k) (hb : J.broken = false) (s : ByteArray) (hf : J.fits s.size = true) (hfin : J.fin + s.size + 8 ≤ 16777216) (hn : n + s.size + 100 ≤ 1099511627776) (e1 : (D.both J.fin (frm8 s.data.toList)).1 = true) (e2 : ((D.both J.fin (frm8 s.data.toList)).2.both 0 (header (J.fin + (frm8 s.data.toList).length))).1 = false) :
    Calls Try.prog 42 #[.pointer (some ⟨j, 0, none⟩), .string s] w fun e w' => e = .returned (.int .i64 (japp J D s.data.toList).1) ∧
      Own w0 ((L.set i (diskT d (japp J D s.data.toList).2.2 (n + s.size + 30))).set k (jT j d (japp J D s.data.toList).2.1)) w' := by
  have h1 := (h.box #[.pointer (some ⟨j, 0, none⟩)] 65).box #[.int .i64 0] 44
  have hk1 := get_left [cellT (w.alloc (.cells #[.pointer (some ⟨j, 0, none⟩)] 65)).heap.size #[.int .i64 0] 44] (get_left [cellT w.heap.size #[.pointer (some ⟨j, 0, none⟩)] 65] hk)
  obtain ⟨c0, c1, c2, c3, c4, -⟩ := h1.jcells k hk1
  rw [hb] at c4
  have hf' : (J.bytes : Int) + s.size + 16 * (J.many + 1) + 256 ≤ 16777216 := by
    have : (J.bytes + s.size + 16 * (J.many + 1) + 256 ≤ 16777216) := by simpa [Jn.fits] using hf
    omega
  have hd : decide ((16777216 : Int) < (J.bytes : Int) + s.size + 16 * (J.many + 1) + 256) = false := by
    rw [decide_eq_false_iff_not]; omega
  have hb1 : J.bytes ≤ 16777216 := by omega
  have hb2 : J.many ≤ 16777216 := by omega
  have hb3 : s.size ≤ 16777216 := by omega
  clear hf'
  have E1 := Lib.hid e1
  have E2 := Lib.hid e2
  clear e1 e2
  have Hf := Lib.hid hf
  have Hb := Lib.hid hb
  have hmf : ∀ (fn : Fn) (first cap : Array Value) (w : World), (Instr.makeFunc fn first cap).run Try.prog w = .ok (.func fn first cap) w := fun _ _ _ _ => rfl
  have Hi := Lib.hid hi
  have Hk := Lib.hid hk
  have Hik := Lib.hid hik
  clear hk1 hf hb hi hk hik
  go_enter_defers Try.func42, Try.ntmps42
  go_wp2_with fail
  go_quiet (fail)
  obtain ⟨bj, hbj⟩ : ∃ b, b = w.heap.size := ⟨_, rfl⟩
  obtain ⟨be, hbe⟩ : ∃ b, b = w.heap.size + 1 := ⟨_, rfl⟩
  have h2 := h1.drewN nq
  rw [World.size_alloc, ← hbe, ← hbj] at h2
  obtain ⟨W, hW⟩ : ∃ W, W = (((w.alloc (.cells #[.pointer (some ⟨j, 0, none⟩)] 65)).alloc (.cells #[.int .i64 0] 44)).drewN nq) := ⟨_, rfl⟩
  rw [← hW] at h2 ⊢
  rw [← hbe, ← hbj]
  clear h1 c0 c1 c2 c3 c4 hW hbj hbe
  go_wp2_with fail
  refine (digits_any s.size _ (by omega)).mono ?_
  rintro e w2 ⟨rfl, f2⟩
  have h3 := h2.still f2
  clear h2 f2
  obtain ⟨S, hS⟩ : ∃ S : ByteArray, S = ⟨(be8 s.size).toArray⟩ := ⟨_, rfl⟩
  have hS8 : S.size = 8 := by rw [hS]; rfl
  have hS1 : 8 ≤ S.size := by omega
  have hS2 : S.size ≤ 8 := by omega
  have HS : Hid (S.data.toList = be8 s.size) := by rw [hS]; rfl
  rw [← hS]
  clear hS hS8
  have hfr : (S ++ s).data.toList = frm8 s.data.toList := by
    rw [ByteArray.data_append, Array.toList_append, HS.out, frm8, Array.length_toList]
    rfl
  go_upto_region 9 with fail
  have hT0 : (S ++ s).size = S.size + s.size := ByteArray.size_append
  generalize S ++ s = T at hfr hT0 ⊢
  have hT1 : T.size ≤ s.size + 8 := by omega
  have hT2 : s.size + 8 ≤ T.size := by omega
  have hlen : (frm8 s.data.toList).length = T.size := by rw [← hfr, Array.length_toList]; rfl
  have Hfr := Lib.hid hfr
  have Hlen := Lib.hid hlen
  clear hfr HS hT0 hlen
  have hi3 : (L ++ [cellT bj #[.pointer (some ⟨j, 0, none⟩)] 65] ++ [cellT be #[.int .i64 0] 44])[i]? = some (diskT d D n) := get_left _ (get_left _ Hi.out)
  have hk3 : (L ++ [cellT bj #[.pointer (some ⟨j, 0, none⟩)] 65] ++ [cellT be #[.int .i64 0] 44])[k]? = some (jT j d J) := get_left _ (get_left _ Hk.out)
  have hil : i < L.length := (List.getElem?_eq_some_iff.1 Hi.out).1
  have hkl : k < L.length := (List.getElem?_eq_some_iff.1 Hk.out).1
  have Hi3 := Lib.hid hi3
  have Hk3 := Lib.hid hk3
  clear hi3 hk3
  obtain ⟨-, d1, -⟩ := Own.jcells h3 k Hk3.out
  have d0 := (h3.cell1 L.length (get_mid _ _ _)).1
  have h3d := h3.drew
  have d1' : w2.drew.cell? ⟨j, 1, none⟩ = some (.int .i64 J.fin) := d1
  have d0' : w2.drew.cell? ⟨bj, 0, none⟩ = some (.pointer (some ⟨j, 0, none⟩)) := d0
  clear d0 d1
  refine wp_region_noPanic ?_
  refine wp_region_held_drew (S := fun w' => w'.cell? ⟨bj, 0, none⟩ = some (.pointer (some ⟨j, 0, none⟩)) ∧ w'.cell? ⟨j, 1, none⟩ = some (.int .i64 J.fin)) (by kernel_rfl) ⟨d0', d1'⟩ (fun hHeld => ?_)
  refine wpAnyH_take (i := 0) (oi := ⟨some 41, _, _, _, _, _⟩) (v := (.pointer (some ⟨j, 0, none⟩))) rfl (by kernel_rfl) (by kernel_rfl) (by kernel_rfl) (fun _ _ _ h => h) (.inl ⟨by rfl, fun w hw => by dsimp only at hw; go_simp⟩) hHeld ?_
  simp only [Act.put, List.setIfInBounds_toArray, List.set_cons_zero, List.set_cons_succ]
  refine wpAnyH_take (i := 1) (oi := ⟨some 42, _, _, _, _, _⟩) (v := (.pointer (some ⟨j, 0, none⟩))) rfl (by kernel_rfl) (by kernel_rfl) (by kernel_rfl) (fun _ _ _ h => h) (.inl ⟨by rfl, fun w hw => by dsimp only at hw; go_simp⟩) hHeld ?_
  simp only [Act.put, List.setIfInBounds_toArray, List.set_cons_zero, List.set_cons_succ]
  refine wpAnyH_take (i := 2) (oi := ⟨some 43, _, _, _, _, _⟩) (v := (.pointer (some ⟨j, 0, none⟩))) rfl (by kernel_rfl) (by kernel_rfl) (by kernel_rfl) (fun _ _ _ h => h) (.inl ⟨by rfl, fun w hw => by dsimp only at hw; go_simp⟩) hHeld ?_
  simp only [Act.put, List.setIfInBounds_toArray, List.set_cons_zero, List.set_cons_succ]
  refine wpAnyH_take (i := 3) (oi := ⟨some 44, _, _, _, _, _⟩) (v := (.pointer (some ⟨j, 1, none⟩))) rfl (by kernel_rfl) (by kernel_rfl) (by kernel_rfl) (fun _ _ _ h => h) (.inl ⟨by rfl, fun w hw => by dsimp only at hw; go_simp⟩) hHeld ?_
  simp only [Act.put, List.setIfInBounds_toArray, List.set_cons_zero, List.set_cons_succ]
  refine wpAnyH_take (i := 4) (oi := ⟨some 45, _, _, _, _, _⟩) (v := (.int .i64 J.fin)) rfl (by kernel_rfl) (by kernel_rfl) (by kernel_rfl) (fun _ _ _ h => h) (.inl ⟨by rfl, fun w hw => by dsimp only at hw; go_simp⟩) hHeld ?_
  simp only [Act.put, List.setIfInBounds_toArray, List.set_cons_zero, List.set_cons_succ]
  refine wpAnyH_take (i := 5) (oi := ⟨some 46, _, _, _, _, _⟩) (v := (.string T)) rfl (by kernel_rfl) (by kernel_rfl) (by kernel_rfl) (fun _ _ _ h => h) (.inl ⟨by rfl, fun w hw => by dsimp only at hw; go_simp⟩) hHeld ?_
  simp only [Act.put, List.setIfInBounds_toArray, List.set_cons_zero, List.set_cons_succ]
  refine wpAnyH_ready (rs := [6]) (by kernel_rfl) (by simp) ?_
  refine AllReadyH.cons (o := ⟨some 47, _, _, _, _, _⟩) rfl (fun K hK => ?_) AllReadyH.nil
  go_simp
  refine (own_jwrite h3d i k Hi3.out Hk3.out Hik.out J.fin T (by omega) (by omega)).mono ?_
  rintro e w4 ⟨rfl, h4⟩
  rw [Hfr.out] at h4 ⊢
  rw [E1.out]
  rw [List.append_assoc, List.set_append_left (h := hil), ← List.append_assoc] at h4
  obtain ⟨D1, hD1⟩ : ∃ D1, D1 = (D.both J.fin (frm8 s.data.toList)).2 := ⟨_, rfl⟩
  rw [← hD1] at h4
  obtain ⟨L1, hL1⟩ : ∃ L1, L1 = L.set i (diskT d D1 (n + T.size + 2)) := ⟨_, rfl⟩
  have hk1 : L1[k]? = some (jT j d J) := by rw [hL1, List.getElem?_set_ne Hik.out]; exact Hk.out
  have hi1 : L1[i]? = some (diskT d D1 (n + T.size + 2)) := by rw [hL1]; exact List.getElem?_set_self hil
  have hil1 : i < L1.length := (List.getElem?_eq_some_iff.1 hi1).1
  have hkl1 : k < L1.length := (List.getElem?_eq_some_iff.1 hk1).1
  rw [← hL1] at h4
  have HD1 := Lib.hid hD1
  have HL1 := Lib.hid hL1
  have Hk1 := Lib.hid hk1
  have Hi1 := Lib.hid hi1
  clear hL1 hk1 hi1 hD1
  refine hK.out _ _ ⟨(h4.cell1 _ (get_mid _ _ _)).1, (Own.jcells h4 k (get_left _ (get_left _ Hk1.out))).2.1⟩ (fun hHeld => ?_)
  clear hK K
  have q1 : IntKind.i64.wrap ((J.fin : Int) + T.size) = (J.fin : Int) + T.size := IntWalk.i64_in _ (by omega)
  refine wpAnyH_take (i := 7) (oi := ⟨some 48, _, _, _, _, _⟩) (v := (.bool false)) rfl (by kernel_rfl) (by kernel_rfl) (by kernel_rfl) (fun _ _ _ h => h) (.inl ⟨by rfl, fun w hw => by dsimp only at hw; go_simp⟩) hHeld ?_
  simp only [Act.put, List.setIfInBounds_toArray, List.set_cons_zero, List.set_cons_succ]
  refine wpAnyH_take (i := 8) (oi := ⟨some 49, _, _, _, _, _⟩) (v := (.bool false)) rfl (by kernel_rfl) (by kernel_rfl) (by kernel_rfl) (fun _ _ _ h => h) (.inl ⟨by rfl, fun w hw => by dsimp only at hw; go_simp⟩) hHeld ?_
  simp only [Act.put, List.setIfInBounds_toArray, List.set_cons_zero, List.set_cons_succ]
  refine wpAnyH_take (i := 9) (oi := ⟨some 50, _, _, _, _, _⟩) (v := (.pointer (some ⟨j, 0, none⟩))) rfl (by kernel_rfl) (by kernel_rfl) (by kernel_rfl) (fun _ _ _ h => h) (.inl ⟨by rfl, fun w hw => by dsimp only at hw; go_simp⟩) hHeld ?_
  simp only [Act.put, List.setIfInBounds_toArray, List.set_cons_zero, List.set_cons_succ]
  refine wpAnyH_take (i := 10) (oi := ⟨some 51, _, _, _, _, _⟩) (v := (.pointer (some ⟨j, 0, none⟩))) rfl (by kernel_rfl) (by kernel_rfl) (by kernel_rfl) (fun _ _ _ h => h) (.inl ⟨by rfl, fun w hw => by dsimp only at hw; go_simp⟩) hHeld ?_
  simp only [Act.put, List.setIfInBounds_toArray, List.set_cons_zero, List.set_cons_succ]
  refine wpAnyH_take (i := 11) (oi := ⟨some 52, _, _, _, _, _⟩) (v := (.pointer (some ⟨j, 0, none⟩))) rfl (by kernel_rfl) (by kernel_rfl) (by kernel_rfl) (fun _ _ _ h => h) (.inl ⟨by rfl, fun w hw => by dsimp only at hw; go_simp⟩) hHeld ?_
  simp only [Act.put, List.setIfInBounds_toArray, List.set_cons_zero, List.set_cons_succ]
  refine wpAnyH_take (i := 12) (oi := ⟨some 53, _, _, _, _, _⟩) (v := (.pointer (some ⟨j, 1, none⟩))) rfl (by kernel_rfl) (by kernel_rfl) (by kernel_rfl) (fun _ _ _ h => h) (.inl ⟨by rfl, fun w hw => by dsimp only at hw; go_simp⟩) hHeld ?_
  simp only [Act.put, List.setIfInBounds_toArray, List.set_cons_zero, List.set_cons_succ]
  refine wpAnyH_take (i := 13) (oi := ⟨some 54, _, _, _, _, _⟩) (v := (.int .i64 J.fin)) rfl (by kernel_rfl) (by kernel_rfl) (by kernel_rfl) (fun _ _ _ h => h) (.inl ⟨by rfl, fun w hw => by dsimp only at hw; go_simp⟩) hHeld ?_
  simp only [Act.put, List.setIfInBounds_toArray, List.set_cons_zero, List.set_cons_succ]
  refine wpAnyH_take (i := 14) (oi := ⟨some 55, _, _, _, _, _⟩) (v := (.string T)) rfl (by kernel_rfl) (by kernel_rfl) (by kernel_rfl) (fun _ _ _ h => h) (.inl ⟨by rfl, fun w hw => by dsimp only at hw; go_simp⟩) hHeld ?_
  simp only [Act.put, List.setIfInBounds_toArray, List.set_cons_zero, List.set_cons_succ]
  refine wpAnyH_take (i := 15) (oi := ⟨some 56, _, _, _, _, _⟩) (v := (.int .i64 T.size)) rfl (by kernel_rfl) (by kernel_rfl) (by kernel_rfl) (fun _ _ _ h => h) (.inl ⟨by rfl, fun w hw => by dsimp only at hw; go_simp⟩) hHeld ?_
  simp only [Act.put, List.setIfInBounds_toArray, List.set_cons_zero, List.set_cons_succ]
  refine wpAnyH_take (i := 16) (oi := ⟨some 57, _, _, _, _, _⟩) (v := (.int .i64 ((J.fin : Int) + T.size))) rfl (by kernel_rfl) (by kernel_rfl) (by kernel_rfl) (fun _ _ _ h => h) (.inl ⟨by rfl, fun w hw => by dsimp only at hw; go_simp⟩) hHeld ?_
  simp only [Act.put, List.setIfInBounds_toArray, List.set_cons_zero, List.set_cons_succ]
  refine wpAnyH_ready (rs := [17]) (by kernel_rfl) (by simp) ?_
  refine AllReadyH.cons (o := ⟨some 58, _, _, _, _, _⟩) rfl (fun K hK => ?_) AllReadyH.nil
  go_simp
  clear q1
  rw [show (J.fin : Int) + T.size = ((J.fin + T.size : Nat) : Int) from by omega]
  refine (digits_any (J.fin + T.size) _ (by omega)).mono ?_
  rintro e w5 ⟨rfl, f5⟩
  have h5 := h4.still f5
  clear h4 f5
  obtain ⟨S2, hS2'⟩ : ∃ S : ByteArray, S = ⟨(be8 (J.fin + T.size)).toArray⟩ := ⟨_, rfl⟩
  have HS2 : Hid (S2.data.toList = be8 (J.fin + T.size)) := by rw [hS2']; rfl
  have hS28 : S2.size ≤ 8 := by rw [hS2']; exact Nat.le_refl 8
  have hS29 : 8 + S2.size ≤ 9223372036854775807 := by omega
  rw [← hS2']
  clear hS2'
  refine hK.out _ _ ⟨(h5.cell1 _ (get_mid _ _ _)).1, (Own.jcells h5 k (get_left _ (get_left _ Hk1.out))).2.1⟩ (fun hHeld => ?_)
  clear hK K
  obtain ⟨H2, hH2⟩ : ∃ H2 : ByteArray, H2 = (⟨#[99, 111, 110, 99, 111, 114, 100, 49]⟩ : ByteArray) ++ S2 := ⟨_, rfl⟩
  refine wpAnyH_take (i := 18) (oi := ⟨some 59, _, _, _, _, _⟩) (v := (.string ((⟨#[99, 111, 110, 99, 111, 114, 100, 49]⟩ : ByteArray) ++ S2))) rfl (by kernel_rfl) (by kernel_rfl) (by kernel_rfl) (fun _ _ _ h => h) (.inl ⟨by rfl, fun w hw => by dsimp only at hw; go_simp⟩) hHeld ?_
  simp only [Act.put, List.setIfInBounds_toArray, List.set_cons_zero, List.set_cons_succ]
  have hHd : H2.data.toList = header (J.fin + (frm8 s.data.toList).length) := by rw [hH2, ByteArray.data_append, Array.toList_append, HS2.out, Hlen.out]; rfl
  have hH16 : H2.size = 16 := by rw [← size_toList, hHd, header_length]
  rw [← hH2]
  have hH16' : H2.size ≤ 16 := by omega
  have HHd := Lib.hid hHd
  clear hH2 hHd hH16
  refine wpAnyH_ready (rs := [19]) (by kernel_rfl) (by simp) ?_
  refine AllReadyH.cons (o := ⟨some 60, _, _, _, _, _⟩) rfl (fun K hK => ?_) AllReadyH.nil
  go_simp
  refine (own_jwrite h5 i k (get_left _ (get_left _ Hi1.out)) (get_left _ (get_left _ Hk1.out)) Hik.out 0 H2 (by omega) (by omega)).mono ?_
  rintro e w6 ⟨rfl, h6⟩
  rw [HHd.out] at h6 ⊢
  rw [← HD1.out] at E2
  rw [E2.out]
  obtain ⟨D2, hD2⟩ : ∃ D2, D2 = (D1.both 0 (header (J.fin + (frm8 s.data.toList).length))).2 := ⟨_, rfl⟩
  rw [← hD2] at h6
  rw [List.append_assoc, List.set_append_left (h := hil1), ← List.append_assoc] at h6
  have h6 := h6.widen i (n' := n + s.size + 30) (get_left _ (get_left _ (List.getElem?_set_self hil1))) (by omega)
  rw [List.append_assoc, List.set_append_left (h := by rw [List.length_set]; exact hil1), ← List.append_assoc, List.set_set, HL1.out, List.set_set] at h6
  obtain ⟨L2, hL2⟩ : ∃ L2, L2 = L.set i (diskT d D2 (n + s.size + 30)) := ⟨_, rfl⟩
  have hk2 : L2[k]? = some (jT j d J) := by rw [hL2, List.getElem?_set_ne Hik.out]; exact Hk.out
  rw [← hL2] at h6
  have HL2 := Lib.hid hL2
  have Hk2 := Lib.hid hk2
  have HD2 := Lib.hid hD2
  clear hL2 hk2 hD2 h5
  refine hK.out _ _ ⟨(h6.cell1 _ (get_mid _ _ _)).1, (Own.jcells h6 k (get_left _ (get_left _ Hk2.out))).2.1⟩ (fun hHeld => ?_)
  clear hK K
  refine wpAnyH_take (i := 20) (oi := ⟨some 61, _, _, _, _, _⟩) (v := (.bool true)) rfl (by kernel_rfl) (by kernel_rfl) (by kernel_rfl) (fun _ _ _ h => h) (.inl ⟨by rfl, fun w hw => by dsimp only at hw; go_simp⟩) hHeld ?_
  simp only [Act.put, List.setIfInBounds_toArray, List.set_cons_zero, List.set_cons_succ]
  refine wpAnyH_take (i := 21) (oi := ⟨some 62, _, _, _, _, _⟩) (v := (.bool true)) rfl (by kernel_rfl) (by kernel_rfl) (by kernel_rfl) (fun _ _ _ h => h) (.inl ⟨by rfl, fun w hw => by dsimp only at hw; go_simp⟩) hHeld ?_
  simp only [Act.put, List.setIfInBounds_toArray, List.set_cons_zero, List.set_cons_succ]
  refine wpAnyH_done (by kernel_rfl) ?_ _
  refine NoPanic.normal ?_
  obtain ⟨z0, z1⟩ := h6.cell1 (x := be) (v := .int .i64 0) (t := 44) _ (get_last _ _ _)
  clear h3d d0' d1' hHeld
  go_wp2_with fail
  have hj : japp J D s.data.toList = (70, { J with broken := true }, D2) := by
    unfold japp
    rw [← HD1.out, ← HD2.out]
    rw [if_neg (by rw [Hb.out]; simp), if_neg (by rw [size_toList, Hf.out]; simp), if_neg (by rw [E1.out]; simp), if_pos E2.out]
  obtain ⟨hj1, hj2, hj3⟩ := trip hj
  have Hj1 := Lib.hid hj1
  have Hj2 := Lib.hid hj2
  have Hj3 := Lib.hid hj3
  clear hj hj1 hj2 hj3
  have h9 := fin_bad h6 k Hk2.out Hb.out
  rw [HL2.out] at h9
  refine leaves_cons (f := 61) (args := #[.pointer (some ⟨be, 0, none⟩), .pointer (some ⟨bj, 0, none⟩)]) (by simp) (by simp [go_sem]) ?_
  refine h9.mono ?_
  rintro e u' w'' ⟨rfl, rfl, hr, ho⟩
  exact ⟨_, app_result _ _ ⟨be, 0, none⟩ 70 rfl hr, ret_i64 Hj1.out.symm, by rw [Hj2.out, Hj3.out]; exact ho⟩

set_option maxRecDepth 100000 in
set_option maxHeartbeats 4000000 in
theorem own_japp_c (h : Own w0 L w) {j d : Nat} {J : Jn} {D : Dk} {n : Nat} (i k : Nat) (hi : L[i]? = some (diskT d D n)) (hk : L[k]? = some (jT j d J)) (hik : i ≠ k) (hb : J.broken = false) (s : ByteArray) (hf : J.fits s.size = true) (hfin : J.fin + s.size + 8 ≤ 16777216) (hn : n + s.size + 100 ≤ 1099511627776) (e1 : (D.both J.fin (frm8 s.data.toList)).1 = true) (e2 : ((D.both J.fin (frm8 s.data.toList)).2.both 0 (header (J.fin + (frm8 s.data.toList).length))).1 = true) :
    Calls Try.prog 42 #[.pointer (some ⟨j, 0, none⟩), .string s] w fun e w' => e = .returned (.int .i64 (japp J D s.data.toList).1) ∧
      Own w0 ((L.set i (diskT d (japp J D s.data.toList).2.2 (n + s.size + 30))).set k (jT j d (japp J D s.data.toList).2.1)) w' := by
  have h1 := (h.box #[.pointer (some ⟨j, 0, none⟩)] 65).box #[.int .i64 0] 44
  have hk1 := get_left [cellT (w.alloc (.cells #[.pointer (some ⟨j, 0, none⟩)] 65)).heap.size #[.int .i64 0] 44] (get_left [cellT w.heap.size #[.pointer (some ⟨j, 0, none⟩)] 65] hk)
  obtain ⟨c0, c1, c2, c3, c4, -⟩ := h1.jcells k hk1
  rw [hb] at c4
  have hf' : (J.bytes : Int) + s.size + 16 * (J.many + 1) + 256 ≤ 16777216 := by
    have : (J.bytes + s.size + 16 * (J.many + 1) + 256 ≤ 16777216) := by simpa [Jn.fits] using hf
    omega
  have hd : decide ((16777216 : Int) < (J.bytes : Int) + s.size + 16 * (J.many + 1) + 256) = false := by
    rw [decide_eq_false_iff_not]; omega
  have hb1 : J.bytes ≤ 16777216 := by omega
  have hb2 : J.many ≤ 16777216 := by omega
  have hb3 : s.size ≤ 16777216 := by omega
  clear hf'
  have E1 := Lib.hid e1
  have E2 := Lib.hid e2
  clear e1 e2
  have Hf := Lib.hid hf
  have Hb := Lib.hid hb
  have hmf : ∀ (fn : Fn) (first cap : Array Value) (w : World), (Instr.makeFunc fn first cap).run Try.prog w = .ok (.func fn first cap) w := fun _ _ _ _ => rfl
  have Hi := Lib.hid hi
  have Hk := Lib.hid hk
  have Hik := Lib.hid hik
  clear hk1 hf hb hi hk hik
  go_enter_defers Try.func42, Try.ntmps42
  go_wp2_with fail
  go_quiet (fail)
  obtain ⟨bj, hbj⟩ : ∃ b, b = w.heap.size := ⟨_, rfl⟩
  obtain ⟨be, hbe⟩ : ∃ b, b = w.heap.size + 1 := ⟨_, rfl⟩
  have h2 := h1.drewN nq
  rw [World.size_alloc, ← hbe, ← hbj] at h2
  obtain ⟨W, hW⟩ : ∃ W, W = (((w.alloc (.cells #[.pointer (some ⟨j, 0, none⟩)] 65)).alloc (.cells #[.int .i64 0] 44)).drewN nq) := ⟨_, rfl⟩
  rw [← hW] at h2 ⊢
  rw [← hbe, ← hbj]
  clear h1 c0 c1 c2 c3 c4 hW hbj hbe
  go_wp2_with fail
  refine (digits_any s.size _ (by omega)).mono ?_
  rintro e w2 ⟨rfl, f2⟩
  have h3 := h2.still f2
  clear h2 f2
  obtain ⟨S, hS⟩ : ∃ S : ByteArray, S = ⟨(be8 s.size).toArray⟩ := ⟨_, rfl⟩
  have hS8 : S.size = 8 := by rw [hS]; rfl
  have hS1 : 8 ≤ S.size := by omega
  have hS2 : S.size ≤ 8 := by omega
  have HS : Hid (S.data.toList = be8 s.size) := by rw [hS]; rfl
  rw [← hS]
  clear hS hS8
  have hfr : (S ++ s).data.toList = frm8 s.data.toList := by
    rw [ByteArray.data_append, Array.toList_append, HS.out, frm8, Array.length_toList]
    rfl
  go_upto_region 9 with fail
  have hT0 : (S ++ s).size = S.size + s.size := ByteArray.size_append
  generalize S ++ s = T at hfr hT0 ⊢
  have hT1 : T.size ≤ s.size + 8 := by omega
  have hT2 : s.size + 8 ≤ T.size := by omega
  have hlen : (frm8 s.data.toList).length = T.size := by rw [← hfr, Array.length_toList]; rfl
  have Hfr := Lib.hid hfr
  have Hlen := Lib.hid hlen
  clear hfr HS hT0 hlen
  have hi3 : (L ++ [cellT bj #[.pointer (some ⟨j, 0, none⟩)] 65] ++ [cellT be #[.int .i64 0] 44])[i]? = some (diskT d D n) := get_left _ (get_left _ Hi.out)
  have hk3 : (L ++ [cellT bj #[.pointer (some ⟨j, 0, none⟩)] 65] ++ [cellT be #[.int .i64 0] 44])[k]? = some (jT j d J) := get_left _ (get_left _ Hk.out)
  have hil : i < L.length := (List.getElem?_eq_some_iff.1 Hi.out).1
  have hkl : k < L.length := (List.getElem?_eq_some_iff.1 Hk.out).1
  have Hi3 := Lib.hid hi3
  have Hk3 := Lib.hid hk3
  clear hi3 hk3
  obtain ⟨-, d1, -⟩ := Own.jcells h3 k Hk3.out
  have d0 := (h3.cell1 L.length (get_mid _ _ _)).1
  have h3d := h3.drew
  have d1' : w2.drew.cell? ⟨j, 1, none⟩ = some (.int .i64 J.fin) := d1
  have d0' : w2.drew.cell? ⟨bj, 0, none⟩ = some (.pointer (some ⟨j, 0, none⟩)) := d0
  clear d0 d1
  refine wp_region_noPanic ?_
  refine wp_region_held_drew (S := fun w' => w'.cell? ⟨bj, 0, none⟩ = some (.pointer (some ⟨j, 0, none⟩)) ∧ w'.cell? ⟨j, 1, none⟩ = some (.int .i64 J.fin)) (by kernel_rfl) ⟨d0', d1'⟩ (fun hHeld => ?_)
  refine wpAnyH_take (i := 0) (oi := ⟨some 41, _, _, _, _, _⟩) (v := (.pointer (some ⟨j, 0, none⟩))) rfl (by kernel_rfl) (by kernel_rfl) (by kernel_rfl) (fun _ _ _ h => h) (.inl ⟨by rfl, fun w hw => by dsimp only at hw; go_simp⟩) hHeld ?_
  simp only [Act.put, List.setIfInBounds_toArray, List.set_cons_zero, List.set_cons_succ]
  refine wpAnyH_take (i := 1) (oi := ⟨some 42, _, _, _, _, _⟩) (v := (.pointer (some ⟨j, 0, none⟩))) rfl (by kernel_rfl) (by kernel_rfl) (by kernel_rfl) (fun _ _ _ h => h) (.inl ⟨by rfl, fun w hw => by dsimp only at hw; go_simp⟩) hHeld ?_
  simp only [Act.put, List.setIfInBounds_toArray, List.set_cons_zero, List.set_cons_succ]
  refine wpAnyH_take (i := 2) (oi := ⟨some 43, _, _, _, _, _⟩) (v := (.pointer (some ⟨j, 0, none⟩))) rfl (by kernel_rfl) (by kernel_rfl) (by kernel_rfl) (fun _ _ _ h => h) (.inl ⟨by rfl, fun w hw => by dsimp only at hw; go_simp⟩) hHeld ?_
  simp only [Act.put, List.setIfInBounds_toArray, List.set_cons_zero, List.set_cons_succ]
  refine wpAnyH_take (i := 3) (oi := ⟨some 44, _, _, _, _, _⟩) (v := (.pointer (some ⟨j, 1, none⟩))) rfl (by kernel_rfl) (by kernel_rfl) (by kernel_rfl) (fun _ _ _ h => h) (.inl ⟨by rfl, fun w hw => by dsimp only at hw; go_simp⟩) hHeld ?_
  simp only [Act.put, List.setIfInBounds_toArray, List.set_cons_zero, List.set_cons_succ]
  refine wpAnyH_take (i := 4) (oi := ⟨some 45, _, _, _, _, _⟩) (v := (.int .i64 J.fin)) rfl (by kernel_rfl) (by kernel_rfl) (by kernel_rfl) (fun _ _ _ h => h) (.inl ⟨by rfl, fun w hw => by dsimp only at hw; go_simp⟩) hHeld ?_
  simp only [Act.put, List.setIfInBounds_toArray, List.set_cons_zero, List.set_cons_succ]
  refine wpAnyH_take (i := 5) (oi := ⟨some 46, _, _, _, _, _⟩) (v := (.string T)) rfl (by kernel_rfl) (by kernel_rfl) (by kernel_rfl) (fun _ _ _ h => h) (.inl ⟨by rfl, fun w hw => by dsimp only at hw; go_simp⟩) hHeld ?_
  simp only [Act.put, List.setIfInBounds_toArray, List.set_cons_zero, List.set_cons_succ]
  refine wpAnyH_ready (rs := [6]) (by kernel_rfl) (by simp) ?_
  refine AllReadyH.cons (o := ⟨some 47, _, _, _, _, _⟩) rfl (fun K hK => ?_) AllReadyH.nil
  go_simp
  refine (own_jwrite h3d i k Hi3.out Hk3.out Hik.out J.fin T (by omega) (by omega)).mono ?_
  rintro e w4 ⟨rfl, h4⟩
  rw [Hfr.out] at h4 ⊢
  rw [E1.out]
  rw [List.append_assoc, List.set_append_left (h := hil), ← List.append_assoc] at h4
  obtain ⟨D1, hD1⟩ : ∃ D1, D1 = (D.both J.fin (frm8 s.data.toList)).2 := ⟨_, rfl⟩
  rw [← hD1] at h4
  obtain ⟨L1, hL1⟩ : ∃ L1, L1 = L.set i (diskT d D1 (n + T.size + 2)) := ⟨_, rfl⟩
  have hk1 : L1[k]? = some (jT j d J) := by rw [hL1, List.getElem?_set_ne Hik.out]; exact Hk.out
  have hi1 : L1[i]? = some (diskT d D1 (n + T.size + 2)) := by rw [hL1]; exact List.getElem?_set_self hil
  have hil1 : i < L1.length := (List.getElem?_eq_some_iff.1 hi1).1
  have hkl1 : k < L1.length := (List.getElem?_eq_some_iff.1 hk1).1
  rw [← hL1] at h4
  have HD1 := Lib.hid hD1
  have HL1 := Lib.hid hL1
  have Hk1 := Lib.hid hk1
  have Hi1 := Lib.hid hi1
  clear hL1 hk1 hi1 hD1
  refine hK.out _ _ ⟨(h4.cell1 _ (get_mid _ _ _)).1, (Own.jcells h4 k (get_left _ (get_left _ Hk1.out))).2.1⟩ (fun hHeld => ?_)
  clear hK K
  have q1 : IntKind.i64.wrap ((J.fin : Int) + T.size) = (J.fin : Int) + T.size := IntWalk.i64_in _ (by omega)
  refine wpAnyH_take (i := 7) (oi := ⟨some 48, _, _, _, _, _⟩) (v := (.bool false)) rfl (by kernel_rfl) (by kernel_rfl) (by kernel_rfl) (fun _ _ _ h => h) (.inl ⟨by rfl, fun w hw => by dsimp only at hw; go_simp⟩) hHeld ?_
  simp only [Act.put, List.setIfInBounds_toArray, List.set_cons_zero, List.set_cons_succ]
  refine wpAnyH_take (i := 8) (oi := ⟨some 49, _, _, _, _, _⟩) (v := (.bool false)) rfl (by kernel_rfl) (by kernel_rfl) (by kernel_rfl) (fun _ _ _ h => h) (.inl ⟨by rfl, fun w hw => by dsimp only at hw; go_simp⟩) hHeld ?_
  simp only [Act.put, List.setIfInBounds_toArray, List.set_cons_zero, List.set_cons_succ]
  refine wpAnyH_take (i := 9) (oi := ⟨some 50, _, _, _, _, _⟩) (v := (.pointer (some ⟨j, 0, none⟩))) rfl (by kernel_rfl) (by kernel_rfl) (by kernel_rfl) (fun _ _ _ h => h) (.inl ⟨by rfl, fun w hw => by dsimp only at hw; go_simp⟩) hHeld ?_
  simp only [Act.put, List.setIfInBounds_toArray, List.set_cons_zero, List.set_cons_succ]
  refine wpAnyH_take (i := 10) (oi := ⟨some 51, _, _, _, _, _⟩) (v := (.pointer (some ⟨j, 0, none⟩))) rfl (by kernel_rfl) (by kernel_rfl) (by kernel_rfl) (fun _ _ _ h => h) (.inl ⟨by rfl, fun w hw => by dsimp only at hw; go_simp⟩) hHeld ?_
  simp only [Act.put, List.setIfInBounds_toArray, List.set_cons_zero, List.set_cons_succ]
  refine wpAnyH_take (i := 11) (oi := ⟨some 52, _, _, _, _, _⟩) (v := (.pointer (some ⟨j, 0, none⟩))) rfl (by kernel_rfl) (by kernel_rfl) (by kernel_rfl) (fun _ _ _ h => h) (.inl ⟨by rfl, fun w hw => by dsimp only at hw; go_simp⟩) hHeld ?_
  simp only [Act.put, List.setIfInBounds_toArray, List.set_cons_zero, List.set_cons_succ]
  refine wpAnyH_take (i := 12) (oi := ⟨some 53, _, _, _, _, _⟩) (v := (.pointer (some ⟨j, 1, none⟩))) rfl (by kernel_rfl) (by kernel_rfl) (by kernel_rfl) (fun _ _ _ h => h) (.inl ⟨by rfl, fun w hw => by dsimp only at hw; go_simp⟩) hHeld ?_
  simp only [Act.put, List.setIfInBounds_toArray, List.set_cons_zero, List.set_cons_succ]
  refine wpAnyH_take (i := 13) (oi := ⟨some 54, _, _, _, _, _⟩) (v := (.int .i64 J.fin)) rfl (by kernel_rfl) (by kernel_rfl) (by kernel_rfl) (fun _ _ _ h => h) (.inl ⟨by rfl, fun w hw => by dsimp only at hw; go_simp⟩) hHeld ?_
  simp only [Act.put, List.setIfInBounds_toArray, List.set_cons_zero, List.set_cons_succ]
  refine wpAnyH_take (i := 14) (oi := ⟨some 55, _, _, _, _, _⟩) (v := (.string T)) rfl (by kernel_rfl) (by kernel_rfl) (by kernel_rfl) (fun _ _ _ h => h) (.inl ⟨by rfl, fun w hw => by dsimp only at hw; go_simp⟩) hHeld ?_
  simp only [Act.put, List.setIfInBounds_toArray, List.set_cons_zero, List.set_cons_succ]
  refine wpAnyH_take (i := 15) (oi := ⟨some 56, _, _, _, _, _⟩) (v := (.int .i64 T.size)) rfl (by kernel_rfl) (by kernel_rfl) (by kernel_rfl) (fun _ _ _ h => h) (.inl ⟨by rfl, fun w hw => by dsimp only at hw; go_simp⟩) hHeld ?_
  simp only [Act.put, List.setIfInBounds_toArray, List.set_cons_zero, List.set_cons_succ]
  refine wpAnyH_take (i := 16) (oi := ⟨some 57, _, _, _, _, _⟩) (v := (.int .i64 ((J.fin : Int) + T.size))) rfl (by kernel_rfl) (by kernel_rfl) (by kernel_rfl) (fun _ _ _ h => h) (.inl ⟨by rfl, fun w hw => by dsimp only at hw; go_simp⟩) hHeld ?_
  simp only [Act.put, List.setIfInBounds_toArray, List.set_cons_zero, List.set_cons_succ]
  refine wpAnyH_ready (rs := [17]) (by kernel_rfl) (by simp) ?_
  refine AllReadyH.cons (o := ⟨some 58, _, _, _, _, _⟩) rfl (fun K hK => ?_) AllReadyH.nil
  go_simp
  clear q1
  rw [show (J.fin : Int) + T.size = ((J.fin + T.size : Nat) : Int) from by omega]
  refine (digits_any (J.fin + T.size) _ (by omega)).mono ?_
  rintro e w5 ⟨rfl, f5⟩
  have h5 := h4.still f5
  clear h4 f5
  obtain ⟨S2, hS2'⟩ : ∃ S : ByteArray, S = ⟨(be8 (J.fin + T.size)).toArray⟩ := ⟨_, rfl⟩
  have HS2 : Hid (S2.data.toList = be8 (J.fin + T.size)) := by rw [hS2']; rfl
  have hS28 : S2.size ≤ 8 := by rw [hS2']; exact Nat.le_refl 8
  have hS29 : 8 + S2.size ≤ 9223372036854775807 := by omega
  rw [← hS2']
  clear hS2'
  refine hK.out _ _ ⟨(h5.cell1 _ (get_mid _ _ _)).1, (Own.jcells h5 k (get_left _ (get_left _ Hk1.out))).2.1⟩ (fun hHeld => ?_)
  clear hK K
  obtain ⟨H2, hH2⟩ : ∃ H2 : ByteArray, H2 = (⟨#[99, 111, 110, 99, 111, 114, 100, 49]⟩ : ByteArray) ++ S2 := ⟨_, rfl⟩
  refine wpAnyH_take (i := 18) (oi := ⟨some 59, _, _, _, _, _⟩) (v := (.string ((⟨#[99, 111, 110, 99, 111, 114, 100, 49]⟩ : ByteArray) ++ S2))) rfl (by kernel_rfl) (by kernel_rfl) (by kernel_rfl) (fun _ _ _ h => h) (.inl ⟨by rfl, fun w hw => by dsimp only at hw; go_simp⟩) hHeld ?_
  simp only [Act.put, List.setIfInBounds_toArray, List.set_cons_zero, List.set_cons_succ]
  have hHd : H2.data.toList = header (J.fin + (frm8 s.data.toList).length) := by rw [hH2, ByteArray.data_append, Array.toList_append, HS2.out, Hlen.out]; rfl
  have hH16 : H2.size = 16 := by rw [← size_toList, hHd, header_length]
  rw [← hH2]
  have hH16' : H2.size ≤ 16 := by omega
  have HHd := Lib.hid hHd
  clear hH2 hHd hH16
  refine wpAnyH_ready (rs := [19]) (by kernel_rfl) (by simp) ?_
  refine AllReadyH.cons (o := ⟨some 60, _, _, _, _, _⟩) rfl (fun K hK => ?_) AllReadyH.nil
  go_simp
  refine (own_jwrite h5 i k (get_left _ (get_left _ Hi1.out)) (get_left _ (get_left _ Hk1.out)) Hik.out 0 H2 (by omega) (by omega)).mono ?_
  rintro e w6 ⟨rfl, h6⟩
  rw [HHd.out] at h6 ⊢
  rw [← HD1.out] at E2
  rw [E2.out]
  obtain ⟨D2, hD2⟩ : ∃ D2, D2 = (D1.both 0 (header (J.fin + (frm8 s.data.toList).length))).2 := ⟨_, rfl⟩
  rw [← hD2] at h6
  rw [List.append_assoc, List.set_append_left (h := hil1), ← List.append_assoc] at h6
  have h6 := h6.widen i (n' := n + s.size + 30) (get_left _ (get_left _ (List.getElem?_set_self hil1))) (by omega)
  rw [List.append_assoc, List.set_append_left (h := by rw [List.length_set]; exact hil1), ← List.append_assoc, List.set_set, HL1.out, List.set_set] at h6
  obtain ⟨L2, hL2⟩ : ∃ L2, L2 = L.set i (diskT d D2 (n + s.size + 30)) := ⟨_, rfl⟩
  have hk2 : L2[k]? = some (jT j d J) := by rw [hL2, List.getElem?_set_ne Hik.out]; exact Hk.out
  rw [← hL2] at h6
  have HL2 := Lib.hid hL2
  have Hk2 := Lib.hid hk2
  have HD2 := Lib.hid hD2
  clear hL2 hk2 hD2 h5
  refine hK.out _ _ ⟨(h6.cell1 _ (get_mid _ _ _)).1, (Own.jcells h6 k (get_left _ (get_left _ Hk2.out))).2.1⟩ (fun hHeld => ?_)
  clear hK K
  refine wpAnyH_take (i := 20) (oi := ⟨some 61, _, _, _, _, _⟩) (v := (.bool false)) rfl (by kernel_rfl) (by kernel_rfl) (by kernel_rfl) (fun _ _ _ h => h) (.inl ⟨by rfl, fun w hw => by dsimp only at hw; go_simp⟩) hHeld ?_
  simp only [Act.put, List.setIfInBounds_toArray, List.set_cons_zero, List.set_cons_succ]
  refine wpAnyH_take (i := 21) (oi := ⟨some 62, _, _, _, _, _⟩) (v := (.bool false)) rfl (by kernel_rfl) (by kernel_rfl) (by kernel_rfl) (fun _ _ _ h => h) (.inl ⟨by rfl, fun w hw => by dsimp only at hw; go_simp⟩) hHeld ?_
  simp only [Act.put, List.setIfInBounds_toArray, List.set_cons_zero, List.set_cons_succ]
  refine wpAnyH_done (by kernel_rfl) ?_ _
  refine NoPanic.normal ?_
  obtain ⟨z0, z1⟩ := h6.cell1 (x := be) (v := .int .i64 0) (t := 44) _ (get_last _ _ _)
  have y0 := (h6.cell1 _ (get_mid _ _ _)).1
  obtain ⟨y1, y2, y3, y4, y5, g1, g2, g3, g4, g5⟩ := Own.jcells h6 k (get_left _ (get_left _ Hk2.out))
  clear h3d d0' d1' hHeld
  go_wp2_with fail
  have hj : japp J D s.data.toList = (0, ⟨J.fin + (frm8 s.data.toList).length, J.many + 1, J.bytes + s.data.toList.length, false⟩, D2) := by
    unfold japp
    rw [← HD1.out, ← HD2.out]
    rw [if_neg (by rw [Hb.out]; simp), if_neg (by rw [size_toList, Hf.out]; simp), if_neg (by rw [E1.out]; simp), if_neg (by rw [E2.out]; simp)]
  obtain ⟨hj1, hj2, hj3⟩ := trip hj
  rw [Hlen.out, size_toList] at hj2
  have Hj1 := Lib.hid hj1
  have Hj2 := Lib.hid hj2
  have Hj3 := Lib.hid hj3
  clear hj hj1 hj2 hj3
  have h9 := fin_ok h6 k Hk2.out Hb.out ((J.fin : Int) + T.size) ((J.many : Int) + 1) ((J.bytes : Int) + s.size) (J.fin + T.size) (J.many + 1) (J.bytes + s.size) (by omega) (by omega) (by omega)
  rw [HL2.out] at h9
  refine leaves_cons (f := 61) (args := #[.pointer (some ⟨be, 0, none⟩), .pointer (some ⟨bj, 0, none⟩)]) (by simp) (by simp [go_sem]) ?_
  refine h9.mono ?_
  rintro e u' w'' ⟨rfl, rfl, hr, ho⟩
  exact ⟨_, app_result _ _ ⟨be, 0, none⟩ 0 rfl hr, ret_i64 Hj1.out.symm, by rw [Hj2.out, Hj3.out]; exact ho⟩

theorem own_japp (h : Own w0 L w) {j d : Nat} {J : Jn} {D : Dk} {n : Nat} (i k : Nat) (hi : L[i]? = some (diskT d D n)) (hk : L[k]? = some (jT j d J)) (hik : i ≠ k) (hb : J.broken = false) (s : ByteArray) (hf : J.fits s.size = true) (hfin : J.fin + s.size + 8 ≤ 16777216) (hn : n + s.size + 100 ≤ 1099511627776) :
    Calls Try.prog 42 #[.pointer (some ⟨j, 0, none⟩), .string s] w fun e w' => e = .returned (.int .i64 (japp J D s.data.toList).1) ∧
      Own w0 ((L.set i (diskT d (japp J D s.data.toList).2.2 (n + s.size + 30))).set k (jT j d (japp J D s.data.toList).2.1)) w' := by
  by_cases e1 : (D.both J.fin (frm8 s.data.toList)).1 = false
  · exact own_japp_a h i k hi hk hik hb s hf hfin hn e1
  · by_cases e2 : ((D.both J.fin (frm8 s.data.toList)).2.both 0 (header (J.fin + (frm8 s.data.toList).length))).1 = false
    · exact own_japp_b h i k hi hk hik hb s hf hfin hn (by simpa using e1) e2
    · exact own_japp_c h i k hi hk hik hb s hf hfin hn (by simpa using e1) (by simpa using e2)

end
end Go.Proofs.Ytehdjajeonemoaa
