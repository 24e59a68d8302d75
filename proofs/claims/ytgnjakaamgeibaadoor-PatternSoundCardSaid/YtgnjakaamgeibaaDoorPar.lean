/-
  Parse: what the code does. Conditions: none on the string but its reach.
-/
import Derived.Test.YtgnjakaamgeibaaDoorRdr3
import Derived.Defers
import Derived.Recover
namespace Go.Proofs.YtgnjakaamgeibaaDoor
open Go.RowKit Go.Shelf
attribute [local go_sem] Oper.semAt_some

theorem one_cell {w : World} {b : Nat} {v : Value} {t : TypeId} (h : w.heap[b]? = some (.cells #[v] t (0, 0))) : w.cell? ⟨b, 0, none⟩ = some v ∧ w.frozen? ⟨b, 0, none⟩ = false :=
  ⟨by rw [cell_of_row w b _ _ _ _ h]; rfl, frozen_of_row w b 0 _ _ h⟩

theorem as_fault (v : Value) (W : World) : (Instr.typeAssert (.iface 93 v) 20 93 true).run Tryd.prog W = .ok (.tuple #[v, .bool true]) W := by kernel_rfl
theorem as_none (W : World) : (Instr.typeAssert .nilIface 20 93 true).run Tryd.prog W = .ok (.tuple #[.agg #[.int .i64 0, .int .i64 0], .bool false]) W := by kernel_rfl
set_option maxRecDepth 100000 in
set_option maxHeartbeats 400000 in
theorem catch_fault (b0 b1 b2 : Nat) (a k : Int) (v0 v1 v2 : Value) (older : List PanicEntry) (w : World) (h0 : w.heap[b0]? = some (.cells #[v0] 46 (0, 0))) (h1 : w.heap[b1]? = some (.cells #[v1] 3 (0, 0))) (h2 : w.heap[b2]? = some (.cells #[v2] 49 (0, 0))) (n01 : b0 ≠ b1) (n02 : b0 ≠ b2) (n12 : b1 ≠ b2) :
    CallsD Tryd.prog 81 #[.pointer (some ⟨b0, 0, none⟩), .pointer (some ⟨b1, 0, none⟩), .pointer (some ⟨b2, 0, none⟩)] (.panicking ({ v := .iface 93 (.agg #[.int .i64 a, .int .i64 k]), recovered := false } :: older)) w fun e u' w' =>
      e = .returned (.tuple #[]) ∧ u' = .panicking ({ v := .iface 93 (.agg #[.int .i64 a, .int .i64 k]), recovered := true } :: older) ∧ w'.cell? ⟨b0, 0, none⟩ = some (.slice none 0 0) ∧ w'.cell? ⟨b1, 0, none⟩ = some (.int .i64 a) ∧ w'.cell? ⟨b2, 0, none⟩ = some (.int .i64 k) ∧ Frm (fun x => x = b0 ∨ x = b1 ∨ x = b2) w w' := by
  refine callsD_of_wpS Tryd.func81 rfl fun c₀ cs hu => ?_
  simp only [Tryd.ntmps81, List.size_toArray, List.length_cons, List.length_nil, Nat.reduceAdd, Nat.reduceSub, Array.replicate_succ, Array.replicate_zero, List.push_toArray, List.append_toArray, List.nil_append, List.cons_append]
  refine wpS_seq ?_
  refine wpS_region ?_
  generalize hK : Exit.thenS _ _ = K
  simp [wpOpsS, go_sem, recoverD, hu, as_fault]
  rw [← hK]
  show Code.wpS _ _ _ _ _ _
  refine wpS_of_wp ?_
  have hf0 := (Frm.refl (fun x => x = b0 ∨ x = b1 ∨ x = b2) w).alloc (.cells #[.int .i64 a, .int .i64 k] 93)
  have hx := heap_alloc_new w (.cells #[.int .i64 a, .int .i64 k] 93)
  have hl0 := (Array.getElem?_eq_some_iff.1 h0).1
  have hl1 := (Array.getElem?_eq_some_iff.1 h1).1
  have hl2 := (Array.getElem?_eq_some_iff.1 h2).1
  have g0 := ((Frm.refl (fun _ => False) w).alloc (.cells #[.int .i64 a, .int .i64 k] 93)).heap h0 (fun h => h)
  have g1 := ((Frm.refl (fun _ => False) w).alloc (.cells #[.int .i64 a, .int .i64 k] 93)).heap h1 (fun h => h)
  have g2 := ((Frm.refl (fun _ => False) w).alloc (.cells #[.int .i64 a, .int .i64 k] 93)).heap h2 (fun h => h)
  obtain ⟨W, hW⟩ : ∃ W, W = w.alloc (.cells #[.int .i64 a, .int .i64 k] 93) := ⟨_, rfl⟩
  obtain ⟨x, hxx⟩ : ∃ b, b = w.heap.size := ⟨_, rfl⟩
  rw [← hxx] at hx
  rw [← hxx, ← hW]
  rw [← hW] at hf0 hx g0 g1 g2
  have n0 : x ≠ b0 := by omega
  have n1 : x ≠ b1 := by omega
  have n2 : x ≠ b2 := by omega
  have n0' : b0 ≠ x := by omega
  have n1' : b1 ≠ x := by omega
  have n2' : b2 ≠ x := by omega
  have m01 : b1 ≠ b0 := fun e => n01 e.symm
  have m02 : b2 ≠ b0 := fun e => n02 e.symm
  have m12 : b2 ≠ b1 := fun e => n12 e.symm
  obtain ⟨c0, z0⟩ := one_cell g0
  obtain ⟨c1, z1⟩ := one_cell g1
  obtain ⟨c2, z2⟩ := one_cell g2
  have x0 : W.cell? ⟨x, 0, none⟩ = some (.int .i64 a) := by rw [cell_of_row W x _ _ _ _ hx]; rfl
  have x1 : W.cell? ⟨x, 1, none⟩ = some (.int .i64 k) := by rw [cell_of_row W x _ _ _ _ hx]; rfl
  have Hu := Lib.hid hu
  have Hf0 := Lib.hid hf0
  have HK := Lib.hid hK
  clear hu hf0 hK hW hxx hx h0 h1 h2 g0 g1 g2 hl0 hl1 hl2
  go_upto_region 2 with fail
  go_region_held3 (fun w' => w'.cell? ⟨x, 0, none⟩ = some (.int .i64 a) ∧ w'.cell? ⟨x, 1, none⟩ = some (.int .i64 k))
    (go_keep) (fail)
  refine ⟨rfl, _, rfl, .tuple #[], results_none rfl _ _ _, rfl, rfl, by go_simp, by go_simp, by go_simp, ?_⟩
  exact ((((Hf0.out.setCell (p := ⟨b0, 0, none⟩) (.inl (.inl rfl)) _).setCell (p := ⟨b1, 0, none⟩) (.inl (.inr (.inl rfl))) _).setCell (p := ⟨b2, 0, none⟩) (.inl (.inr (.inr rfl))) _).drew)

/-- No fault: nothing is caught. -/
theorem catch_none (b0 b1 b2 : Nat) (w : World) :
    CallsD Tryd.prog 81 #[.pointer (some ⟨b0, 0, none⟩), .pointer (some ⟨b1, 0, none⟩), .pointer (some ⟨b2, 0, none⟩)] .returning w fun e u' w' =>
      e = .returned (.tuple #[]) ∧ u' = .returning ∧ Frm (fun _ => False) w w' := by
  refine callsD_of_wpS Tryd.func81 rfl fun c₀ cs hu => ?_
  simp only [Tryd.ntmps81, List.size_toArray, List.length_cons, List.length_nil, Nat.reduceAdd, Nat.reduceSub, Array.replicate_succ, Array.replicate_zero, List.push_toArray, List.append_toArray, List.nil_append, List.cons_append]
  refine wpS_seq ?_
  refine wpS_region ?_
  generalize hK : Exit.thenS _ _ = K
  simp [wpOpsS, go_sem, recoverD, hu, as_none]
  rw [← hK]
  show Code.wpS _ _ _ _ _ _
  refine wpS_of_wp ?_
  have Hu := Lib.hid hu
  have HK := Lib.hid hK
  clear hu hK
  go_wp2_with fail
  cases c₀
  refine ⟨rfl, _, ?_, .tuple #[], results_none rfl _ _ _, rfl, rfl, (Frm.refl _ _).alloc _⟩
  have := Hu.out
  simp only at this
  rw [this]

/-! ### What is left is an end of the string -/
theorem brE_suf {t r u : List UInt8} {a b x y : Int} (h : brE t a b r = .inr (x, y, u)) : u <:+ r := by
  unfold brE at h
  split at h
  · split at h
    · injection h
    · injection h with h; injection h with _ h; injection h with _ h; subst h; exact List.suffix_cons _ _
  · injection h
theorem numR_suf {t r : List UInt8} {a : Int} (h : numR t = .inr (a, r)) : r <:+ t := ((num_suf t false 0 0 (by omega) (by omega)).2 a r h).1
theorem cnt_suf {t u : List UInt8} {x y : Int} (h : cntR t = .inr (x, y, u)) : u <:+ t := by
  unfold cntR at h
  split at h
  · injection h with h; injection h with _ h; injection h with _ h; subst h; exact List.suffix_cons _ _
  · injection h with h; injection h with _ h; injection h with _ h; subst h; exact List.suffix_cons _ _
  · rename_i v
    refine List.IsSuffix.trans ?_ (List.suffix_cons 123 v)
    unfold brR at h
    split at h
    · injection h
    · rename_i a r hn
      refine List.IsSuffix.trans ?_ (numR_suf hn)
      unfold brM at h
      split at h
      · rename_i q
        refine List.IsSuffix.trans ?_ (List.suffix_cons 44 q)
        split at h
        · injection h
        · rename_i b r2 hn2
          exact (brE_suf h).trans (numR_suf hn2)
      · exact brE_suf h
  · injection h with h; injection h with _ h; injection h with _ h; subst h; exact List.suffix_refl _
theorem addC_len (ps : List Pc) (c : UInt8) : (addC ps c).length ≤ ps.length + 1 := by
  unfold addC
  split
  · split
    · rw [List.length_append, List.length_dropLast]; simp
    · simp
  · simp
theorem addC_txt {ps : List Pc} {c : UInt8} {B : Nat} (h : ∀ p ∈ ps, p.txt.size ≤ B) : ∀ p ∈ addC ps c, p.txt.size ≤ B + 1 := by
  have one : (⟨#[c]⟩ : ByteArray).size = 1 := rfl
  unfold addC
  split
  · rename_i q hq
    split
    · intro p hp
      rcases List.mem_append.1 hp with hp | hp
      · have := h p ((List.dropLast_sublist _).mem hp); omega
      · rw [List.mem_singleton] at hp
        subst hp
        have := h q (List.mem_of_getLast? hq)
        simp only [ByteArray.size_append, one]
        omega
    · intro p hp
      rcases List.mem_append.1 hp with hp | hp
      · have := h p hp; omega
      · rw [List.mem_singleton] at hp
        subst hp
        simp only [one]
        omega
  · intro p hp
    rw [List.mem_singleton] at hp
    subst hp
    simp only [one]
    omega
theorem nxt_ok {ps qs : List Pc} {t u : List UInt8} (h : nxtR ps t = .inr (qs, u)) : u <:+ t ∧ qs.length ≤ ps.length + 1 ∧ ∀ B, (∀ p ∈ ps, p.txt.size ≤ B) → ∀ p ∈ qs, p.txt.size ≤ B + 1 := by
  unfold nxtR at h
  split at h
  · injection h
  · rename_i c v
    split at h
    · split at h
      · injection h
      · rename_i d v2
        split at h
        · split at h
          · injection h
          · rename_i a b w2 hc
            injection h with h
            injection h with h1 h2
            subst h1
            subst h2
            refine ⟨((cnt_suf hc).trans (List.suffix_cons _ _)).trans (List.suffix_cons _ _), by simp, fun B hB p hp => ?_⟩
            rcases List.mem_append.1 hp with hp | hp
            · have := hB p hp; omega
            · rw [List.mem_singleton] at hp
              subst hp
              exact Nat.zero_le _
        · split at h
          · injection h with h
            injection h with h1 h2
            subst h1
            subst h2
            exact ⟨(List.suffix_cons _ _).trans (List.suffix_cons _ _), addC_len _ _, fun B hB => addC_txt hB⟩
          · injection h
    · split at h
      · injection h
      · injection h with h
        injection h with h1 h2
        subst h1
        subst h2
        exact ⟨List.suffix_cons _ _, addC_len _ _, fun B hB => addC_txt hB⟩

/-- What Parse answers. -/
def ParP (r : Sum (Nat × Int) (List Pc)) (w : World) (e : Ending) (w' : World) : Prop :=
  match r with
  | .inl (n, k) => e = .returned (.tuple #[.slice none 0 0, .int .i64 n, .int .i64 k]) ∧ Frm (fun _ => False) w w'
  | .inr ps => ∃ v, e = .returned (.tuple #[v, .int .i64 0, .int .i64 0]) ∧ Pcs w' v ps ∧ Frm (fun _ => False) w w'

/-- The world while Parse reads. -/
structure ParW (w wr : World) (s : ByteArray) (i : Nat) (v : Value) (ps : List Pc) : Prop where
  rd : RdP wr (w.heap.size + 3) s i v ps
  p0 : wr.heap[w.heap.size]? = some (.cells #[.slice none 0 0] 46 (0, 0))
  p1 : wr.heap[w.heap.size + 1]? = some (.cells #[.int .i64 0] 3 (0, 0))
  p2 : wr.heap[w.heap.size + 2]? = some (.cells #[.int .i64 0] 49 (0, 0))
  frm : Frm (fun _ => False) w wr
  new : ∀ k, Blk v k → w.heap.size + 3 < k
  len : ps.length ≤ i
  txt : ∀ p ∈ ps, p.txt.size ≤ i
  at' : i ≤ s.size
theorem ParW.step {w wr w' : World} {s : ByteArray} {i j : Nat} {v v' : Value} {ps qs : List Pc} (h : ParW w wr s i v ps) (hr : RdP w' (w.heap.size + 3) s j v' qs) (hf : Frm (RdF (w.heap.size + 3) v) wr w') (hn : RdN wr v v') (hl : qs.length ≤ j) (ht : ∀ p ∈ qs, p.txt.size ≤ j) (hj : j ≤ s.size) : ParW w w' s j v' qs := by
  have h3 : w.heap.size + 3 < wr.heap.size := (Array.getElem?_eq_some_iff.1 h.rd.rd).1
  have no : ∀ k, k < w.heap.size + 3 → ¬ RdF (w.heap.size + 3) v k := by
    rintro k hk (e | e)
    · omega
    · have := h.new k e; omega
  refine ⟨hr, hf.heap h.p0 (no _ (by omega)), hf.heap h.p1 (no _ (by omega)), hf.heap h.p2 (no _ (by omega)), h.frm.trans' hf ?_, fun k hk => ?_, hl, ht, hj⟩
  · rintro k (e | e)
    · right; omega
    · right; have := h.new k e; omega
  · rcases hn k hk with e | e
    · exact h.new k e
    · omega

set_option maxRecDepth 100000 in
set_option maxHeartbeats 2000000 in
theorem parse_many {s : ByteArray} (hs : 60 < s.size) (hb : s.size ≤ 9223372036854775807) (w : World) :
    Calls Tryd.prog 35 #[.string s] w (ParP (parseL s.data.toList) w) := by
  have hR : parseL s.data.toList = .inl (0, 2) := by unfold parseL; rw [if_pos (by rw [size_list]; exact hs)]
  rw [hR]
  have hgt : (60 : Int) < (s.size : Int) := by omega
  clear hR
  go_enter_defers Tryd.func35, Tryd.ntmps35
  go_wp2_with fail
  refine ⟨.tuple #[.slice none 0 0, .int .i64 0, .int .i64 2], ?_, rfl, (((Frm.refl _ _).alloc _).alloc _).alloc _⟩
  simp [results, Tryd.results35, go_sem]

def parR (n : Nat) (R : Sum (List UInt8 × Int) (List Pc)) : Sum (Nat × Int) (List Pc) := match R with | .inl (r, k) => .inl (n - r.length, k) | .inr ps => .inr ps
theorem prs_pos {s : ByteArray} {i : Nat} {ps qs : List Pc} {u : List UInt8} (hi : i < s.size) (h : nxtR ps (s.data.toList.drop i) = .inr (qs, u)) : ∃ j, i < j ∧ j ≤ s.size ∧ u = s.data.toList.drop j := by
  obtain ⟨h1, h2, h3⟩ := nxt_ok h
  have hlen := (nxtR_len ps _).2 _ _ h
  obtain ⟨j, a, b, c⟩ := suf_pos (by omega) h1
  rw [c, List.length_drop, List.length_drop, size_list] at hlen
  exact ⟨j, by omega, b, c⟩
set_option maxRecDepth 100000 in
set_option maxHeartbeats 4000000 in
theorem parse_few {s : ByteArray} (hs : s.size ≤ 60) (w : World) :
    Calls Tryd.prog 35 #[.string s] w (ParP (parseL s.data.toList) w) := by
  obtain ⟨R, hR⟩ : ∃ R, prsT [] s.data.toList = R := ⟨_, rfl⟩
  have hP : parseL s.data.toList = parR s.size R := by
    unfold parseL
    rw [if_neg (by rw [size_list]; omega), hR, size_list]
    rfl
  rw [hP]
  have hgt : ¬ (60 : Int) < (s.size : Int) := by omega
  have HR := Lib.hid hR
  have hmf : ∀ (fn : Fn) (first cap : Array Value) (w : World), (Instr.makeFunc fn first cap).run Tryd.prog w = .ok (.func fn first cap) w := fun _ _ _ _ => rfl
  have hst : ParW w ((((w.alloc (.cells #[.slice none 0 0] 46)).alloc (.cells #[.int .i64 0] 3)).alloc (.cells #[.int .i64 0] 49)).alloc (.cells #[.string s, .int .i64 0, .slice none 0 0] 97)) s 0 (.slice none 0 0) [] := by
    have g0 := heap_alloc_new w (.cells #[.slice none 0 0] 46)
    have g1 := heap_alloc_new (w.alloc (.cells #[.slice none 0 0] 46)) (.cells #[.int .i64 0] 3)
    have g2 := heap_alloc_new ((w.alloc (.cells #[.slice none 0 0] 46)).alloc (.cells #[.int .i64 0] 3)) (.cells #[.int .i64 0] 49)
    have g3 := heap_alloc_new (((w.alloc (.cells #[.slice none 0 0] 46)).alloc (.cells #[.int .i64 0] 3)).alloc (.cells #[.int .i64 0] 49)) (.cells #[.string s, .int .i64 0, .slice none 0 0] 97)
    simp only [World.size_alloc] at g0 g1 g2 g3
    have f := fun (a : World) (o : Obj) => (Frm.refl (fun _ => False) a).alloc o
    refine ⟨⟨g3, Pcs.nil _, Blk.nil⟩, ?_, ?_, ?_, ?_, fun k hk => absurd hk Blk.nil, Nat.zero_le _, (fun p hp => by cases hp), Nat.zero_le _⟩
    · exact (f _ _).heap ((f _ _).heap ((f _ _).heap g0 (fun h => h)) (fun h => h)) (fun h => h)
    · exact (f _ _).heap ((f _ _).heap g1 (fun h => h)) (fun h => h)
    · exact (f _ _).heap g2 (fun h => h)
    · exact ((((Frm.refl _ _).alloc _).alloc _).alloc _).alloc _
  have Hst := Lib.hid hst
  clear hR hst hP
  go_enter_defers Tryd.func35, Tryd.ntmps35
  go_wp2_with fail
  go_loopw [13] (fun _ wr => ∃ (i : Nat) (v : Value) (ps : List Pc), ParW w wr s i v ps ∧ Hid (prsT ps (s.data.toList.drop i) = R)) (fun _ wr => s.size - atW (w.heap.size + 3) wr)
  case atStart => exact ⟨0, _, _, Hst.out, HR.out⟩
  case round =>
    obtain ⟨i, v, ps, hW, hp⟩ := hrel
    have hr := hW.rd
    have hi := hW.at'
    have c0 : wr.cell? ⟨w.heap.size + 1 + 1 + 1, 0, none⟩ = some (.string s) := (rd_cells hr.rd).1
    have c1 : wr.cell? ⟨w.heap.size + 1 + 1 + 1, 1, none⟩ = some (.int .i64 i) := (rd_cells hr.rd).2.1
    have c2 : wr.cell? ⟨w.heap.size + 1 + 1 + 1, 2, none⟩ = some v := (rd_cells hr.rd).2.2.1
    have HW := Lib.hid hW
    clear Hst HR
    by_cases hlt : i < s.size
    · have hne : s.data.toList.drop i ≠ [] := by rw [pk_drop hlt]; simp
      have hN : Calls Tryd.prog 82 #[.pointer (some ⟨w.heap.size + 1 + 1 + 1, 0, none⟩)] wr (NxP (nxtR ps (s.data.toList.drop i)) wr (w.heap.size + 3) s v) := next_any hr hlt (by omega) (by have := hW.len; omega) (fun p hp => by have := hW.txt p hp; omega)
      cases hn : nxtR ps (s.data.toList.drop i) with
      | inl tk =>
        obtain ⟨t, k⟩ := tk
        have hp2 := hp.out
        rw [prsT_stop hne hn] at hp2
        rw [hn] at hN
        have Hp2 := Lib.hid hp2
        have HN := Lib.hid hN
        clear hp hp2 hn hN hne hr hW
        go_wp2_with fail
        refine HN.out.mono ?_
        rintro e w1 h1
        obtain ⟨rfl, f1⟩ := h1
        have no : ∀ k, k < w.heap.size + 3 → ¬ RdF (w.heap.size + 3) v k := by
          rintro k hk (e | e)
          · omega
          · have := HW.out.new k e; omega
        have hfw := HW.out.frm.trans' f1 (fun k e => .inr (Classical.byContradiction fun hh => no k (by omega) e))
        refine leaves_cons (f := 81) (args := #[.pointer (some ⟨w.heap.size, 0, none⟩), .pointer (some ⟨w.heap.size + 1, 0, none⟩), .pointer (some ⟨w.heap.size + 1 + 1, 0, none⟩)]) (by simp) (by simp [go_sem]) ?_
        refine (catch_fault _ _ _ _ _ _ _ _ [] w1 (f1.heap HW.out.p0 (no _ (by omega))) (f1.heap HW.out.p1 (no _ (by omega))) (f1.heap HW.out.p2 (no _ (by omega))) (by omega) (by omega) (by omega)).mono ?_
        rintro e u' w2 ⟨rfl, rfl, q0, q1, q2, f2⟩
        have hfin := hfw.trans' f2 (fun k e => .inr (by rcases e with e | e | e <;> omega))
        clear HN c0 c1 c2
        refine ⟨.tuple #[.slice none 0 0, .int .i64 ((s.size - t.length : Nat) : Int), .int .i64 k], ?_, ?_⟩
        · simp [results, Tryd.results35, go_sem, q0, q1, q2]
        · rw [← Hp2.out]
          exact ⟨rfl, hfin⟩
      | inr qu =>
        obtain ⟨qs, u⟩ := qu
        obtain ⟨j, hij, hj, rfl⟩ := prs_pos hlt hn
        have hp2 := hp.out
        rw [prsT_step hne hn] at hp2
        obtain ⟨-, hql, hqt⟩ := nxt_ok hn
        rw [hn] at hN
        have hlj := len_drop hj
        have hqt2 := hqt i hW.txt
        have hql2 := hW.len
        have Hq2 := Lib.hid hqt2
        have Hp2 := Lib.hid hp2
        have HN := Lib.hid hN
        have Hlj := Lib.hid hlj
        clear hp hp2 hn hN hne hr hW hqt hqt2 hlj
        go_wp2_with fail
        refine HN.out.mono ?_
        rintro e w1 h1
        obtain ⟨rfl, v', h1, h2, h3⟩ := h1
        rw [Hlj.out] at h1
        have h4 := HW.out.step h1 h2 h3 (by omega) (fun p hp => by have := Hq2.out p hp; omega) hj
        have H4 := Lib.hid h4
        clear h1 h2 h3 h4
        go_wp2_with fail
        go_roundw
        case rel => exact ⟨j, v', qs, H4.out, Hp2.out⟩
        case measure => exact at_lt HW.out.rd.rd H4.out.rd.rd hij hj
    · obtain ⟨ao, cap, rfl⟩ := hr.pcs.form
      have hp2 := hp.out
      rw [List.drop_of_length_le (by rw [size_list]; omega), prsT_nil] at hp2
      have Hp2 := Lib.hid hp2
      have x0 := one_cell hW.p0
      have x1 := one_cell hW.p1
      have x2 := one_cell hW.p2
      obtain ⟨c3, z3⟩ := x0
      obtain ⟨c4, z4⟩ := x1
      have c5 : wr.cell? ⟨w.heap.size + 1 + 1, 0, none⟩ = some (.int .i64 0) := x2.1
      have z5 : wr.frozen? ⟨w.heap.size + 1 + 1, 0, none⟩ = false := x2.2
      have hend : ¬ ((i : Int) < (s.size : Int)) := by omega
      clear hp hp2 hr hW x2 hlt
      go_wp2_with fail
      have q0 : (((wr.setCell ⟨w.heap.size, 0, none⟩ (.slice ao ps.length cap)).setCell ⟨w.heap.size + 1, 0, none⟩ (.int .i64 0)).setCell ⟨w.heap.size + 1 + 1, 0, none⟩ (.int .i64 0)).cell? ⟨w.heap.size, 0, none⟩ = some (.slice ao ps.length cap) := by go_simp
      have q1 : (((wr.setCell ⟨w.heap.size, 0, none⟩ (.slice ao ps.length cap)).setCell ⟨w.heap.size + 1, 0, none⟩ (.int .i64 0)).setCell ⟨w.heap.size + 1 + 1, 0, none⟩ (.int .i64 0)).cell? ⟨w.heap.size + 1, 0, none⟩ = some (.int .i64 0) := by go_simp
      have q2 : (((wr.setCell ⟨w.heap.size, 0, none⟩ (.slice ao ps.length cap)).setCell ⟨w.heap.size + 1, 0, none⟩ (.int .i64 0)).setCell ⟨w.heap.size + 1 + 1, 0, none⟩ (.int .i64 0)).cell? ⟨w.heap.size + 1 + 1, 0, none⟩ = some (.int .i64 0) := by go_simp
      have f3 : Frm (fun k => w.heap.size ≤ k ∧ k < w.heap.size + 3) wr (((wr.setCell ⟨w.heap.size, 0, none⟩ (.slice ao ps.length cap)).setCell ⟨w.heap.size + 1, 0, none⟩ (.int .i64 0)).setCell ⟨w.heap.size + 1 + 1, 0, none⟩ (.int .i64 0)) :=
        (((Frm.refl _ wr).setCell (p := ⟨w.heap.size, 0, none⟩) (.inl ⟨Nat.le_refl _, by simp⟩) _).setCell (p := ⟨w.heap.size + 1, 0, none⟩) (.inl ⟨by simp, by simp⟩) _).setCell (p := ⟨w.heap.size + 1 + 1, 0, none⟩) (.inl ⟨by simp; omega, by simp⟩) _
      refine leaves_cons (f := 81) (args := #[.pointer (some ⟨w.heap.size, 0, none⟩), .pointer (some ⟨w.heap.size + 1, 0, none⟩), .pointer (some ⟨w.heap.size + 1 + 1, 0, none⟩)]) (by simp) (by simp [go_sem]) ?_
      refine (catch_none _ _ _ _).mono ?_
      rintro e u' w2 ⟨rfl, rfl, f2⟩
      have q0 := f2.cell q0 (fun h => h)
      have q1 := f2.cell q1 (fun h => h)
      have q2 := f2.cell q2 (fun h => h)
      have hpc := HW.out.rd.pcs.frm f3 (fun k hk e => by have := HW.out.new k hk; omega)
      refine ⟨.tuple #[.slice ao ps.length cap, .int .i64 0, .int .i64 0], ?_, ?_⟩
      · simp [results, Tryd.results35, go_sem, q0, q1, q2]
      · rw [← Hp2.out]
        exact ⟨_, rfl, hpc.still f2, (HW.out.frm.trans' f3 (fun k e => .inr e.1)).trans f2⟩
theorem parse_any {s : ByteArray} (hb : s.size ≤ 9223372036854775807) (w : World) :
    Calls Tryd.prog 35 #[.string s] w (ParP (parseL s.data.toList) w) := by
  by_cases hs : s.size ≤ 60
  · exact parse_few hs w
  · exact parse_many (by omega) hb w
theorem parse_ok {s : ByteArray} {ps : List Pc} (h : parseL s.data.toList = .inr ps) (hb : s.size ≤ 9223372036854775807) (w : World) :
    Calls Tryd.prog 35 #[.string s] w fun e w' => ∃ v, e = .returned (.tuple #[v, .int .i64 0, .int .i64 0]) ∧ Pcs w' v ps ∧ Frm (fun _ => False) w w' := by
  have := parse_any hb w
  rw [h] at this
  exact this
theorem parse_bad {s : ByteArray} {n : Nat} {k : Int} (h : parseL s.data.toList = .inl (n, k)) (hb : s.size ≤ 9223372036854775807) (w : World) :
    Calls Tryd.prog 35 #[.string s] w fun e w' => e = .returned (.tuple #[.slice none 0 0, .int .i64 n, .int .i64 k]) ∧ Frm (fun _ => False) w w' := by
  have := parse_any hb w
  rw [h] at this
  exact this
end Go.Proofs.YtgnjakaamgeibaaDoor
